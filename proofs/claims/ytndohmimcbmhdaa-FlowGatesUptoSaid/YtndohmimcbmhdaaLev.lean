/- label.Level, label.Leq. -/
import Derived.Test.YtndohmimcbmhdaaMk
set_option linter.unusedVariables false
set_option linter.unusedSimpArgs false
namespace Go.Proofs.Ytndohmimcbmhdaa
open Go.RowKit Go.Sort

/-- The world with new blocks, and draws. -/
def Grew (w w' : World) : Prop := ∃ q os, w' = grow (w.drewN q) os
theorem Grew.refl (w : World) : Grew w w := ⟨0, #[], by simp [grow, World.drewN]⟩
theorem Grew.below {w w' : World} (h : Grew w w') : Below w.heap.size w w' := by obtain ⟨q, os, rfl⟩ := h; exact grown_below q os
theorem Grew.alloc {w w' : World} (h : Grew w w') (o : Obj) : Grew w (w'.alloc o) := by
  obtain ⟨q, os, rfl⟩ := h
  exact ⟨q, os ++ #[o], by rw [alloc_eq_grow, grow_grow]⟩

theorem levelL_hit {d : Int} {cs : List (Int × Int)} {id : Int} {k : Nat} {x : Int × Int} (hx : cs[k]? = some x) (hp : x.1 = id) (hno : ∀ (j : Nat) (y : Int × Int), j < k → cs[j]? = some y → ¬ y.1 = id) : levelL d cs id = x.2 := by
  have : cs.find? (fun c => c.1 == id) = some x := by
    obtain ⟨hk, rfl⟩ := List.getElem?_eq_some_iff.1 hx
    rw [List.find?_eq_some_iff_getElem]
    exact ⟨by simpa using hp, k, hk, rfl, fun j hj => by have := hno j _ hj (List.getElem?_eq_getElem (by omega)); simpa using this⟩
  unfold levelL
  rw [this]
theorem levelL_miss {d : Int} {cs : List (Int × Int)} {id : Int} (hno : ∀ (j : Nat) (y : Int × Int), cs[j]? = some y → ¬ y.1 = id) : levelL d cs id = d := by
  have : cs.find? (fun c => c.1 == id) = none := by
    rw [List.find?_eq_none]
    intro x hx
    obtain ⟨k, hk, rfl⟩ := List.getElem_of_mem hx
    simpa using hno k _ (List.getElem?_eq_getElem hk)
  unfold levelL
  rw [this]

def LevelSays (d : Int) (cs : List (Int × Int)) (id : Int) (w : World) (e : Ending) (w' : World) : Prop := e = .returned (.int .i64 (levelL d cs id)) ∧ ∃ q os, w' = grow (w.drewN q) os

set_option maxHeartbeats 1000000 in
theorem level37 (w : World) (d : Int) (A : Option Addr) (n c : Nat) (cs : List (Int × Int)) (id : Int) (h : CatsAt w w.heap.size A n c cs) :
    Calls Try.prog 37 #[.agg #[.int .i64 d, .slice A n c], .int .u64 id] w fun e w' => LevelSays d cs id w e w' := by
  have hm : n ≤ 9223372036854775807 := by have := h.cap; have := h.max; unfold maxLen at this; omega
  have H := hid h
  clear h
  go_enter Try.func37, Try.ntmps37
  go_wp2_with fail
  go_loopw [10] (fun vi wr => ∃ k : Nat, k ≤ n ∧ vi = .int .i64 k ∧ Hid (Grew w wr ∧ Blk wr w.heap.size 26 #[.int .i64 d, .slice A n c]) ∧ Hid (∀ (j : Nat) (y : Int × Int), j < k → cs[j]? = some y → ¬ y.1 = id)) (fun vi _ => n - (intOf vi).toNat)
  case atStart => exact ⟨0, Nat.zero_le _, rfl, ⟨(Grew.refl _).alloc _, Blk.new _ _ _⟩, fun j y hj => absurd hj (Nat.not_lt_zero _)⟩
  case round =>
    obtain ⟨k, hk, rfl, BW, AL⟩ := hrel
    have hbw : Below w.heap.size w wr := BW.out.1.below
    have hB : Blk wr w.heap.size 26 #[.int .i64 d, .slice A n c] := BW.out.2
    have b0 : wr.cell? ⟨w.heap.size, 0, none⟩ = some (.int .i64 d) := (Blk.cell hB 0).trans rfl
    by_cases hlt : k < n
    · have hltz : (k : Int) < (n : Int) := by omega
      obtain ⟨b, off, x, rfl, hbB, hx, c0, c1⟩ := (H.out.below hbw).at_ hlt
      have HX := hid hx
      clear hx hB
      by_cases hq : x.1 = id
      · have HL : Hid (levelL d cs id = x.2) := levelL_hit HX.out hq AL.out
        go_wp2_with fail
        go_ret
        exact ⟨by rw [HL.out]; rfl, BW.out.1.alloc _⟩
      · go_wp2_with fail
        go_roundw
        case measure => simp [intOf] <;> omega
        case rel =>
          refine ⟨k + 1, by omega, by go_num, ⟨BW.out.1.alloc _, BW.out.2.alloc _⟩, (show Hid _ from fun j y hj hy => ?_)⟩
          by_cases e : j = k
          · subst e
            have := HX.out
            rw [hy] at this; cases this
            exact hq
          · exact AL.out j y (by omega) hy
    · have hltz : ¬ (k : Int) < (n : Int) := by omega
      have HL : Hid (levelL d cs id = d) := levelL_miss fun j y hy => AL.out j y (by have := (List.getElem?_eq_some_iff.1 hy).1; have := H.out.len; omega) hy
      go_wp2_with fail
      go_ret
      exact ⟨by rw [HL.out]; rfl, BW.out.1⟩

/-- What Leq asks of each category: is its level above? -/
def aboveT (d : Int) (cs : List (Int × Int)) (d' : Int) (cs' : List (Int × Int)) (x : Int × Int) : Bool := decide (levelL d cs x.1 > levelL d' cs' x.1)

/-- One of two labels. -/
def Sel (d1 : Int) (A1 : Option Addr) (n1 c1 : Nat) (cs1 : List (Int × Int)) (d2 : Int) (A2 : Option Addr) (n2 c2 : Nat) (cs2 : List (Int × Int)) (d : Int) (A : Option Addr) (n c : Nat) (cs : List (Int × Int)) : Prop :=
  (d = d1 ∧ A = A1 ∧ n = n1 ∧ c = c1 ∧ cs = cs1) ∨ (d = d2 ∧ A = A2 ∧ n = n2 ∧ c = c2 ∧ cs = cs2)
theorem Sel.one {d1 : Int} {A1 : Option Addr} {n1 c1 : Nat} {cs1 : List (Int × Int)} {d2 : Int} {A2 : Option Addr} {n2 c2 : Nat} {cs2 : List (Int × Int)} : Sel d1 A1 n1 c1 cs1 d2 A2 n2 c2 cs2 d1 A1 n1 c1 cs1 := .inl ⟨rfl, rfl, rfl, rfl, rfl⟩
theorem Sel.two {d1 : Int} {A1 : Option Addr} {n1 c1 : Nat} {cs1 : List (Int × Int)} {d2 : Int} {A2 : Option Addr} {n2 c2 : Nat} {cs2 : List (Int × Int)} : Sel d1 A1 n1 c1 cs1 d2 A2 n2 c2 cs2 d2 A2 n2 c2 cs2 := .inr ⟨rfl, rfl, rfl, rfl, rfl⟩
theorem level_below (w : World) (d : Int) (A : Option Addr) (n c : Nat) (cs : List (Int × Int)) (id : Int) (h : CatsAt w w.heap.size A n c cs) :
    Calls Try.prog 37 #[.agg #[.int .i64 d, .slice A n c], .int .u64 id] w fun e w' => e = .returned (.int .i64 (levelL d cs id)) ∧ Below w.heap.size w w' :=
  (level37 w d A n c cs id h).mono fun e w' ⟨he, q, os, hw⟩ => ⟨he, by subst hw; exact grown_below q os⟩

set_option maxHeartbeats 2000000 in
set_option maxRecDepth 100000 in
theorem above101 (w : World) (x : Int × Int) (p p' : Nat) (d d' : Int) (A A' : Option Addr) (n c n' c' : Nat) (cs cs' : List (Int × Int)) (hp : Blk w p 26 #[.int .i64 d, .slice A n c]) (hp' : Blk w p' 26 #[.int .i64 d', .slice A' n' c'])
    (h : CatsAt w w.heap.size A n c cs) (h' : CatsAt w w.heap.size A' n' c' cs') :
    Calls Try.prog 101 #[.agg #[.int .u64 x.1, .int .i64 x.2], .pointer (some ⟨p, 0, none⟩), .pointer (some ⟨p', 0, none⟩)] w fun e w' => e = .returned (.bool (aboveT d cs d' cs' x)) ∧ Below w.heap.size w w' := by
  have mixed : Try.prog.follows .mixedOrders = true := by kernel_rfl
  have HB : Hid (Below w.heap.size w (w.alloc (.cells #[.int .u64 x.1, .int .i64 x.2] 32))) := (Below.refl _ w).alloc (Nat.le_refl _) _
  have HX : Blk (w.alloc (.cells #[.int .u64 x.1, .int .i64 x.2] 32)) w.heap.size 32 #[.int .u64 x.1, .int .i64 x.2] := Blk.new w 32 #[.int .u64 x.1, .int .i64 x.2]
  have P1 := hp.alloc (.cells #[.int .u64 x.1, .int .i64 x.2] 32)
  have P2 := hp'.alloc (.cells #[.int .u64 x.1, .int .i64 x.2] 32)
  have C1 := (h.below HB.out).more HB.out.size
  have C2 := (h'.below HB.out).more HB.out.size
  go_enter Try.func101, Try.ntmps101
  go_wp2_with fail
  clear hp hp' h h'
  generalize w.alloc (.cells #[.int .u64 x.1, .int .i64 x.2] 32) = wa at *
  have f1 : ∀ m os, (grow (wa.drewN m) os).cell? ⟨p, 0, none⟩ = some (.int .i64 d) := fun m os => (Blk.cell (P1.below (grown_below m os) P1.lt) 0).trans rfl
  have f2 : ∀ m os, (grow (wa.drewN m) os).cell? ⟨p, 1, none⟩ = some (.slice A n c) := fun m os => (Blk.cell (P1.below (grown_below m os) P1.lt) 1).trans rfl
  have f3 : ∀ m os, (grow (wa.drewN m) os).cell? ⟨p', 0, none⟩ = some (.int .i64 d') := fun m os => (Blk.cell (P2.below (grown_below m os) P2.lt) 0).trans rfl
  have f4 : ∀ m os, (grow (wa.drewN m) os).cell? ⟨p', 1, none⟩ = some (.slice A' n' c') := fun m os => (Blk.cell (P2.below (grown_below m os) P2.lt) 1).trans rfl
  have f5 : ∀ m os, (grow (wa.drewN m) os).cell? ⟨w.heap.size, 0, none⟩ = some (.int .u64 x.1) := fun m os => (Blk.cell (HX.below (grown_below m os) HX.lt) 0).trans rfl
  have HL1 : Hid (∀ m os (aa : Array Value), aa = #[.agg #[.int .i64 d, .slice A n c], .int .u64 x.1] → Calls Try.prog 37 aa (grow (wa.drewN m) os) fun e w' => e = .returned (.int .i64 (levelL d cs x.1)) ∧ ∃ q os', w' = grow ((grow (wa.drewN m) os).drewN q) os') := by
    rintro m os aa rfl; exact level37 _ d A n c cs x.1 ((C1.below (grown_below m os)).more (grown_below m os).size)
  have HL2 : Hid (∀ m os (aa : Array Value), aa = #[.agg #[.int .i64 d', .slice A' n' c'], .int .u64 x.1] → Calls Try.prog 37 aa (grow (wa.drewN m) os) fun e w' => e = .returned (.int .i64 (levelL d' cs' x.1)) ∧ ∃ q os', w' = grow ((grow (wa.drewN m) os).drewN q) os') := by
    rintro m os aa rfl; exact level37 _ d' A' n' c' cs' x.1 ((C2.below (grown_below m os)).more (grown_below m os).size)
  have HA : Hid (aboveT d cs d' cs' x = decide (levelL d cs x.1 > levelL d' cs' x.1)) := rfl
  clear P1 P2 HX C1 C2
  go_quiet_grown (first | (go_at_call 37; refine Calls.grown_of (HL1.out _ _ _ ?_); exact rfl) | (go_at_call 37; refine Calls.grown_of (HL2.out _ _ _ ?_); exact rfl))
  go_wp2_with fail
  go_ret
  exact ⟨by rw [HA.out]; rfl, HB.out.trans ((grown_below _ _).mono HB.out.size)⟩
end Go.Proofs.Ytndohmimcbmhdaa
