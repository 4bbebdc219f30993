/- label.Level, label.Leq. -/
import Derived.Test.YtndohmimcbmhdaaMz7
import Derived.Lib.AppendZerosOnto
import Derived.Lib.SliceRun
import Derived.Lib.Walk
set_option linter.unusedVariables false
set_option linter.unusedSimpArgs false
namespace Go.Proofs.Ytndohmimcbmhdaa
open Go.RowKit Go.Sort

/-- The world with new blocks, and draws. -/
def Grew (w w' : World) : Prop := ∃ q os, w' = grow (w.drewN q) os
theorem Grew.refl (w : World) : Grew w w := ⟨0, #[], by simp [grow, World.drewN]⟩
theorem Grew.below {w w' : World} (h : Grew w w') : Below w.heap.size w w' := by obtain ⟨q, os, rfl⟩ := h; exact grown_below q os
theorem Grew.alloc {w w' : World} (h : Grew w w') (o : Obj) : Grew w (w'.alloc o) := by
  obtain ⟨q, os, rfl⟩ := h
  exact ⟨q, os ++ #[o], by rw [alloc_eq_grow, grow_grow]⟩

theorem levelL_hit {d : Int} {cs : List (Int × Int)} {id : Int} {k : Nat} {x : Int × Int} (hx : cs[k]? = some x) (hp : x.1 = id) (hno : ∀ (j : Nat) (y : Int × Int), j < k → cs[j]? = some y → ¬ y.1 = id) : levelL d cs id = x.2 := by
  have : cs.find? (fun c => c.1 == id) = some x := by
    obtain ⟨hk, rfl⟩ := List.getElem?_eq_some_iff.1 hx
    rw [List.find?_eq_some_iff_getElem]
    exact ⟨by simpa using hp, k, hk, rfl, fun j hj => by have := hno j _ hj (List.getElem?_eq_getElem (by omega)); simpa using this⟩
  unfold levelL
  rw [this]
theorem levelL_miss {d : Int} {cs : List (Int × Int)} {id : Int} (hno : ∀ (j : Nat) (y : Int × Int), cs[j]? = some y → ¬ y.1 = id) : levelL d cs id = d := by
  have : cs.find? (fun c => c.1 == id) = none := by
    rw [List.find?_eq_none]
    intro x hx
    obtain ⟨k, hk, rfl⟩ := List.getElem_of_mem hx
    simpa using hno k _ (List.getElem?_eq_getElem hk)
  unfold levelL
  rw [this]

def LevelSays (d : Int) (cs : List (Int × Int)) (id : Int) (w : World) (e : Ending) (w' : World) : Prop := e = .returned (.int .i64 (levelL d cs id)) ∧ ∃ q os, w' = grow (w.drewN q) os

set_option maxHeartbeats 1000000 in
theorem level37 (w : World) (d : Int) (A : Option Addr) (n c : Nat) (cs : List (Int × Int)) (id : Int) (h : CatsAt w w.heap.size A n c cs) :
    Calls Try.prog 37 #[.agg #[.int .i64 d, .slice A n c], .int .u64 id] w fun e w' => LevelSays d cs id w e w' := by
  have hm : n ≤ 9223372036854775807 := by have := h.cap; have := h.max; unfold maxLen at this; omega
  have H := hid h
  clear h
  go_enter Try.func37, Try.ntmps37
  go_wp2_with fail
  go_loopw [10] (fun vi wr => ∃ k : Nat, k ≤ n ∧ vi = .int .i64 k ∧ Hid (Grew w wr ∧ Blk wr w.heap.size 26 #[.int .i64 d, .slice A n c]) ∧ Hid (∀ (j : Nat) (y : Int × Int), j < k → cs[j]? = some y → ¬ y.1 = id)) (fun vi _ => n - (intOf vi).toNat)
  case atStart => exact ⟨0, Nat.zero_le _, rfl, ⟨(Grew.refl _).alloc _, Blk.new _ _ _⟩, fun j y hj => absurd hj (Nat.not_lt_zero _)⟩
  case round =>
    obtain ⟨k, hk, rfl, BW, AL⟩ := hrel
    have hbw : Below w.heap.size w wr := BW.out.1.below
    have hB : Blk wr w.heap.size 26 #[.int .i64 d, .slice A n c] := BW.out.2
    have b0 : wr.cell? ⟨w.heap.size, 0, none⟩ = some (.int .i64 d) := (Blk.cell hB 0).trans rfl
    by_cases hlt : k < n
    · have hltz : (k : Int) < (n : Int) := by omega
      obtain ⟨b, off, x, rfl, hbB, hx, c0, c1⟩ := (H.out.below hbw).at_ hlt
      have HX := hid hx
      clear hx hB
      by_cases hq : x.1 = id
      · have HL : Hid (levelL d cs id = x.2) := levelL_hit HX.out hq AL.out
        go_wp2_with fail
        go_ret
        exact ⟨by rw [HL.out]; rfl, BW.out.1.alloc _⟩
      · go_wp2_with fail
        go_roundw
        case measure => simp [intOf] <;> omega
        case rel =>
          refine ⟨k + 1, by omega, by go_num, ⟨BW.out.1.alloc _, BW.out.2.alloc _⟩, (show Hid _ from fun j y hj hy => ?_)⟩
          by_cases e : j = k
          · subst e
            have := HX.out
            rw [hy] at this; cases this
            exact hq
          · exact AL.out j y (by omega) hy
    · have hltz : ¬ (k : Int) < (n : Int) := by omega
      have HL : Hid (levelL d cs id = d) := levelL_miss fun j y hy => AL.out j y (by have := (List.getElem?_eq_some_iff.1 hy).1; have := H.out.len; omega) hy
      go_wp2_with fail
      go_ret
      exact ⟨by rw [HL.out]; rfl, BW.out.1⟩

/-- What Leq asks of each category: is its level above? -/
def aboveT (d : Int) (cs : List (Int × Int)) (d' : Int) (cs' : List (Int × Int)) (x : Int × Int) : Bool := decide (levelL d cs x.1 > levelL d' cs' x.1)

/-- One of two labels. -/
def Sel (d1 : Int) (A1 : Option Addr) (n1 c1 : Nat) (cs1 : List (Int × Int)) (d2 : Int) (A2 : Option Addr) (n2 c2 : Nat) (cs2 : List (Int × Int)) (d : Int) (A : Option Addr) (n c : Nat) (cs : List (Int × Int)) : Prop :=
  (d = d1 ∧ A = A1 ∧ n = n1 ∧ c = c1 ∧ cs = cs1) ∨ (d = d2 ∧ A = A2 ∧ n = n2 ∧ c = c2 ∧ cs = cs2)
theorem Sel.one {d1 : Int} {A1 : Option Addr} {n1 c1 : Nat} {cs1 : List (Int × Int)} {d2 : Int} {A2 : Option Addr} {n2 c2 : Nat} {cs2 : List (Int × Int)} : Sel d1 A1 n1 c1 cs1 d2 A2 n2 c2 cs2 d1 A1 n1 c1 cs1 := .inl ⟨rfl, rfl, rfl, rfl, rfl⟩
theorem Sel.two {d1 : Int} {A1 : Option Addr} {n1 c1 : Nat} {cs1 : List (Int × Int)} {d2 : Int} {A2 : Option Addr} {n2 c2 : Nat} {cs2 : List (Int × Int)} : Sel d1 A1 n1 c1 cs1 d2 A2 n2 c2 cs2 d2 A2 n2 c2 cs2 := .inr ⟨rfl, rfl, rfl, rfl, rfl⟩
theorem level_below (w : World) (d : Int) (A : Option Addr) (n c : Nat) (cs : List (Int × Int)) (id : Int) (h : CatsAt w w.heap.size A n c cs) :
    Calls Try.prog 37 #[.agg #[.int .i64 d, .slice A n c], .int .u64 id] w fun e w' => e = .returned (.int .i64 (levelL d cs id)) ∧ Below w.heap.size w w' :=
  (level37 w d A n c cs id h).mono fun e w' ⟨he, q, os, hw⟩ => ⟨he, by subst hw; exact grown_below q os⟩

set_option maxHeartbeats 2000000 in
set_option maxRecDepth 100000 in
theorem above101 (w : World) (x : Int × Int) (p p' : Nat) (d d' : Int) (A A' : Option Addr) (n c n' c' : Nat) (cs cs' : List (Int × Int)) (hp : Blk w p 26 #[.int .i64 d, .slice A n c]) (hp' : Blk w p' 26 #[.int .i64 d', .slice A' n' c'])
    (h : CatsAt w w.heap.size A n c cs) (h' : CatsAt w w.heap.size A' n' c' cs') :
    Calls Try.prog 101 #[.agg #[.int .u64 x.1, .int .i64 x.2], .pointer (some ⟨p, 0, none⟩), .pointer (some ⟨p', 0, none⟩)] w fun e w' => e = .returned (.bool (aboveT d cs d' cs' x)) ∧ Below w.heap.size w w' := by
  have mixed : Try.prog.follows .mixedOrders = true := by kernel_rfl
  have HB : Hid (Below w.heap.size w (w.alloc (.cells #[.int .u64 x.1, .int .i64 x.2] 32))) := (Below.refl _ w).alloc (Nat.le_refl _) _
  have HX : Blk (w.alloc (.cells #[.int .u64 x.1, .int .i64 x.2] 32)) w.heap.size 32 #[.int .u64 x.1, .int .i64 x.2] := Blk.new w 32 #[.int .u64 x.1, .int .i64 x.2]
  have P1 := hp.alloc (.cells #[.int .u64 x.1, .int .i64 x.2] 32)
  have P2 := hp'.alloc (.cells #[.int .u64 x.1, .int .i64 x.2] 32)
  have C1 := (h.below HB.out).more HB.out.size
  have C2 := (h'.below HB.out).more HB.out.size
  go_enter Try.func101, Try.ntmps101
  go_wp2_with fail
  clear hp hp' h h'
  generalize w.alloc (.cells #[.int .u64 x.1, .int .i64 x.2] 32) = wa at *
  have f1 : ∀ m os, (grow (wa.drewN m) os).cell? ⟨p, 0, none⟩ = some (.int .i64 d) := fun m os => (Blk.cell (P1.below (grown_below m os) P1.lt) 0).trans rfl
  have f2 : ∀ m os, (grow (wa.drewN m) os).cell? ⟨p, 1, none⟩ = some (.slice A n c) := fun m os => (Blk.cell (P1.below (grown_below m os) P1.lt) 1).trans rfl
  have f3 : ∀ m os, (grow (wa.drewN m) os).cell? ⟨p', 0, none⟩ = some (.int .i64 d') := fun m os => (Blk.cell (P2.below (grown_below m os) P2.lt) 0).trans rfl
  have f4 : ∀ m os, (grow (wa.drewN m) os).cell? ⟨p', 1, none⟩ = some (.slice A' n' c') := fun m os => (Blk.cell (P2.below (grown_below m os) P2.lt) 1).trans rfl
  have f5 : ∀ m os, (grow (wa.drewN m) os).cell? ⟨w.heap.size, 0, none⟩ = some (.int .u64 x.1) := fun m os => (Blk.cell (HX.below (grown_below m os) HX.lt) 0).trans rfl
  have HL1 : Hid (∀ m os (aa : Array Value), aa = #[.agg #[.int .i64 d, .slice A n c], .int .u64 x.1] → Calls Try.prog 37 aa (grow (wa.drewN m) os) fun e w' => e = .returned (.int .i64 (levelL d cs x.1)) ∧ ∃ q os', w' = grow ((grow (wa.drewN m) os).drewN q) os') := by
    rintro m os aa rfl; exact level37 _ d A n c cs x.1 ((C1.below (grown_below m os)).more (grown_below m os).size)
  have HL2 : Hid (∀ m os (aa : Array Value), aa = #[.agg #[.int .i64 d', .slice A' n' c'], .int .u64 x.1] → Calls Try.prog 37 aa (grow (wa.drewN m) os) fun e w' => e = .returned (.int .i64 (levelL d' cs' x.1)) ∧ ∃ q os', w' = grow ((grow (wa.drewN m) os).drewN q) os') := by
    rintro m os aa rfl; exact level37 _ d' A' n' c' cs' x.1 ((C2.below (grown_below m os)).more (grown_below m os).size)
  have HA : Hid (aboveT d cs d' cs' x = decide (levelL d cs x.1 > levelL d' cs' x.1)) := rfl
  clear P1 P2 HX C1 C2
  go_quiet_grown (first | (go_at_call 37; refine Calls.grown_of (HL1.out _ _ _ ?_); exact rfl) | (go_at_call 37; refine Calls.grown_of (HL2.out _ _ _ ?_); exact rfl))
  go_wp2_with fail
  go_ret
  exact ⟨by rw [HA.out]; rfl, HB.out.trans ((grown_below _ _).mono HB.out.size)⟩
end Go.Proofs.Ytndohmimcbmhdaa

/- label.Leq, label.Same. -/
set_option linter.unusedVariables false
set_option linter.unusedSimpArgs false
namespace Go.Proofs.Ytndohmimcbmhdaa
open Go.RowKit Go.Sort

def leqB (d : Int) (cs : List (Int × Int)) (d' : Int) (cs' : List (Int × Int)) : Bool :=
  decide (d ≤ d') && !(cs.any (aboveT d cs d' cs')) && !(cs'.any (aboveT d cs d' cs'))

theorem eg101 : ∀ args w, (callFunc 101 args).run Try.prog w = .ok (.enter 101 args) w := fun args w => by
  first | kernel_rfl | (simp [callFunc]; done)

set_option maxHeartbeats 1000000 in
theorem leq40 (w : World) (d d' : Int) (A A' : Option Addr) (n c n' c' : Nat) (cs cs' : List (Int × Int)) (h : CatsAt w w.heap.size A n c cs) (h' : CatsAt w w.heap.size A' n' c' cs') :
    Calls Try.prog 40 #[.agg #[.int .i64 d, .slice A n c], .agg #[.int .i64 d', .slice A' n' c']] w fun e w' => e = .returned (.bool (leqB d cs d' cs')) ∧ Below w.heap.size w w' := by
  have HB : Hid (Below w.heap.size w ((w.alloc (.cells #[.int .i64 d, .slice A n c] 26)).alloc (.cells #[.int .i64 d', .slice A' n' c'] 26))) := ((Below.refl _ w).alloc (Nat.le_refl _) _).alloc (by simp) _
  have P1 : Blk ((w.alloc (.cells #[.int .i64 d, .slice A n c] 26)).alloc (.cells #[.int .i64 d', .slice A' n' c'] 26)) w.heap.size 26 #[.int .i64 d, .slice A n c] := (Blk.new w 26 #[.int .i64 d, .slice A n c]).alloc _
  have P2 : Blk ((w.alloc (.cells #[.int .i64 d, .slice A n c] 26)).alloc (.cells #[.int .i64 d', .slice A' n' c'] 26)) (w.heap.size + 1) 26 #[.int .i64 d', .slice A' n' c'] := by
    have := Blk.new (w.alloc (.cells #[.int .i64 d, .slice A n c] 26)) 26 #[.int .i64 d', .slice A' n' c']
    have e : (w.alloc (.cells #[.int .i64 d, .slice A n c] 26)).heap.size = w.heap.size + 1 := by simp
    rwa [e] at this
  have C1 := (h.below HB.out).more HB.out.size
  have C2 := (h'.below HB.out).more HB.out.size
  have HS : Hid (leqB d cs d' cs' = (decide (d ≤ d') && !(cs.any (aboveT d cs d' cs')) && !(cs'.any (aboveT d cs d' cs')))) := rfl
  by_cases hd : d ≤ d'
  · have HD : Hid (decide (d ≤ d') = true) := decide_eq_true hd
    go_enter Try.func40, Try.ntmps40
    go_wp2_with fail
    clear h h'
    generalize (w.alloc (.cells #[.int .i64 d, .slice A n c] 26)).alloc (.cells #[.int .i64 d', .slice A' n' c'] 26) = wa at *
    have HT : Hid (∀ W, Below wa.heap.size wa W → TestOk 101 #[.pointer (some ⟨w.heap.size, 0, none⟩), .pointer (some ⟨w.heap.size + 1, 0, none⟩)] (aboveT d cs d' cs') W) := by
      intro W hW W' hW' x
      have hb : Below wa.heap.size wa W' := hW.trans (hW'.mono hW.size)
      exact (above101 W' x w.heap.size (w.heap.size + 1) d d' A A' n c n' c' cs cs' (P1.below hb P1.lt) (P2.below hb P2.lt) ((C1.below hb).more hb.size) ((C2.below hb).more hb.size)).mono fun e w2 ⟨he, hw⟩ => ⟨he, hW'.trans (hw.mono hW'.size)⟩
    have HC1 : Hid (∀ W, Below wa.heap.size wa W → ∀ aa, aa = #[.slice A n c, .func (.func 101) #[] #[.pointer (some ⟨w.heap.size, 0, none⟩), .pointer (some ⟨w.heap.size + 1, 0, none⟩)]] → Calls Try.prog 102 aa W fun e w' => e = .returned (.bool (cs.any (aboveT d cs d' cs'))) ∧ Below W.heap.size W w') := by
      rintro W hW aa rfl; exact containsFunc102 W A n c cs 101 _ _ ((C1.below hW).more hW.size) (HT.out W hW) eg101
    have HC2 : Hid (∀ W, Below wa.heap.size wa W → ∀ aa, aa = #[.slice A' n' c', .func (.func 101) #[] #[.pointer (some ⟨w.heap.size, 0, none⟩), .pointer (some ⟨w.heap.size + 1, 0, none⟩)]] → Calls Try.prog 102 aa W fun e w' => e = .returned (.bool (cs'.any (aboveT d cs d' cs'))) ∧ Below W.heap.size W w') := by
      rintro W hW aa rfl; exact containsFunc102 W A' n' c' cs' 101 _ _ ((C2.below hW).more hW.size) (HT.out W hW) eg101
    have HP : Hid (∀ W, Below wa.heap.size wa W → W.cell? ⟨w.heap.size + 1, 1, none⟩ = some (.slice A' n' c')) := fun W hW => (Blk.cell (P2.below hW P2.lt) 1).trans rfl
    clear P1 P2 C1 C2 HT
    generalize cs.any (aboveT d cs d' cs') = b1 at *
    generalize cs'.any (aboveT d cs d' cs') = b2 at *
    refine (HC1.out wa (Below.refl _ _) _ rfl).mono ?_
    rintro e w1 ⟨rfl, hb1⟩
    have f1 := HP.out w1 hb1
    have HB1 := hid hb1
    clear hb1
    cases b1 with
    | true =>
      go_wp2_with fail
      go_ret
      exact ⟨by rw [HS.out, HD.out]; rfl, HB.out.trans (HB1.out.mono HB.out.size)⟩
    | false =>
      go_wp2_with fail
      refine (HC2.out w1 HB1.out _ rfl).mono ?_
      rintro e w2 ⟨rfl, hb2⟩
      have HB2 := hid hb2
      clear hb2
      go_wp2_with fail
      go_ret
      exact ⟨by rw [HS.out, HD.out]; rfl, belowT (HB.out.trans (HB1.out.mono HB.out.size)) HB2.out⟩
  · have HD : Hid (decide (d ≤ d') = false) := decide_eq_false hd
    go_enter Try.func40, Try.ntmps40
    go_wp2_with fail
    go_ret
    exact ⟨by rw [HS.out, HD.out]; rfl, HB.out⟩
end Go.Proofs.Ytndohmimcbmhdaa

/- slices.Grow of nil, slices.Concat of two. -/
set_option linter.unusedVariables false
set_option linter.unusedSimpArgs false
namespace Go.Proofs.Ytndohmimcbmhdaa
open Go.RowKit Go.Sort

def GrownRow (w : World) (e : Ending) (w' : World) : Prop := ∃ v, e = .returned v ∧ w'.ownsRow w.heap.size 32 2 v 0 [] ∧ Below w.heap.size w w'

set_option maxHeartbeats 1000000 in
set_option maxRecDepth 100000 in
theorem grow170 (w : World) (k : Nat) (hk : k ≤ 8796093022208) : Calls Try.prog 170 #[.slice none 0 0, .int .i64 k] w fun e w' => GrownRow w e w' := by
  rcases Nat.eq_zero_or_pos k with rfl | h0
  · go_enter Try.func170, Try.ntmps170
    go_wp2_with fail
    go_ret
    exact ⟨_, rfl, World.ownsRow_nil _ _ _ _, Below.refl _ _⟩
  · obtain ⟨i0, hi0, hz0, hz1, hz2⟩ := info_parts cat_info
    have hk1 : ¬ (k : Int) < 0 := by omega
    have hk2 : (0 : Int) < (k : Int) := by omega
    have hrz : ∀ ty, (Builtin.append_ #[23, 3] ty #[.slice none 0 0, .int .i64 (k : Int)]).run Try.prog w =
        .ok (.slice (some ⟨w.heap.size, 0, none⟩) k (grownCap w k 0 32)) (w.drew.alloc (.cells ((#[] : Array Value) ++ Builtin.zeroCells (Value.agg #[.int .u64 0, .int .i64 0]).cells k ++ Builtin.zeroCells (Value.agg #[.int .u64 0, .int .i64 0]).cells (grownCap w k 0 32 - k)) 32)) := fun ty => by
      have h := Lib.run_append_grow_zeros w 23 3 ty 32 i0 _ .i64 .i64 Try.underlying23 Try.underlying3 hi0 hz0 none 0 0 [] (run_firstCells_none w.drew i0.size 0 0 0) k h0 (by omega) (by omega) (by omega) (by rw [hz2]; omega)
        (by rw [Nat.zero_add]; exact growslice_fits (by omega) (by rw [hz2]; omega))
      simpa using h
    have hG := grownCap_ge w k 0 32
    have hG2 := grownCap_le_maxLen w k 0 32 (by unfold maxLen; omega)
    obtain ⟨G, hGG⟩ : ∃ G, G = grownCap w k 0 32 := ⟨_, rfl⟩
    rw [← hGG] at hrz hG hG2
    have hsz : ((#[] : Array Value) ++ Builtin.zeroCells (Value.agg #[.int .u64 0, .int .i64 0]).cells k ++ Builtin.zeroCells (Value.agg #[.int .u64 0, .int .i64 0]).cells (G - k)).size = G * 2 := by
      simp [Builtin.zeroCells, Value.cells]; omega
    generalize (#[] : Array Value) ++ Builtin.zeroCells (Value.agg #[.int .u64 0, .int .i64 0]).cells k ++ Builtin.zeroCells (Value.agg #[.int .u64 0, .int .i64 0]).cells (G - k) = arr at *
    have HSZ := hid hsz
    have HG2 := hid hG2
    have hGz : (0 : Int) ≤ (G : Int) := by omega
    clear hGG hsz hG2
    go_enter Try.func170, Try.ntmps170
    go_wp2_with (at_builtin; refine Lib.wpList_append_run _ rfl _ _ _ _ rfl _ _ rfl rfl _ _ (hrz _) ?_)
    go_ret
    exact ⟨_, rfl, World.ownsRow_made w.drew arr G (Nat.le_refl _) HG2.out HSZ.out, (Below.refl _ w).drew.alloc (Nat.le_refl _) _⟩

def CatSum (n m : Nat) (vi vs : Value) : Prop := (vi = .int .i64 0 ∧ vs = .int .i64 0) ∨ (vi = .int .i64 1 ∧ vs = .int .i64 n) ∨ (vi = .int .i64 2 ∧ vs = .int .i64 m)
def CatRow (w : World) (cs cs' : List (Int × Int)) (vi v : Value) (wr : World) : Prop :=
  Below w.heap.size w wr ∧ ((vi = .int .i64 0 ∧ wr.ownsRow w.heap.size 32 2 v 0 []) ∨ (vi = .int .i64 1 ∧ wr.ownsRow w.heap.size 32 2 v cs.length (flat cs)) ∨ (vi = .int .i64 2 ∧ wr.ownsRow w.heap.size 32 2 v (cs.length + cs'.length) (flat cs ++ flat cs')))
def Concatted (w : World) (cs : List (Int × Int)) (e : Ending) (w' : World) : Prop := ∃ v, e = .returned v ∧ OwnCats w' w.heap.size v cs ∧ Below w.heap.size w w'

set_option maxHeartbeats 2000000 in
set_option maxRecDepth 100000 in
theorem concat151 (w : World) (b : Nat) (A A' : Option Addr) (n c n' c' : Nat) (cs cs' : List (Int × Int)) (hb : Blk w b 23 #[.slice A n c, .slice A' n' c']) (h : CatsAt w w.heap.size A n c cs) (h' : CatsAt w w.heap.size A' n' c' cs') (hn : n + n' ≤ 8796093022208) :
    Calls Try.prog 151 #[.slice (some ⟨b, 0, none⟩) 2 2] w fun e w' => Concatted w (cs ++ cs') e w' := by
  obtain ⟨i0, hi0, hz0, hz1, hz2⟩ := info_parts cat_info
  obtain ⟨m, hm⟩ : ∃ m, n + n' = m := ⟨_, rfl⟩
  have hmz : (n : Int) + (n' : Int) = (m : Int) := by omega
  have HMZ := hid hmz
  have b0 : w.cell? ⟨b, 0, none⟩ = some (.slice A n c) := (Blk.cell hb 0).trans rfl
  have b1 : w.cell? ⟨b, 1, none⟩ = some (.slice A' n' c') := (Blk.cell hb 1).trans rfl
  have H := hid h
  have H' := hid h'
  have HBK := hid hb
  have hl := hid h.len
  have hl' := hid h'.len
  clear h h' hb hmz
  go_enter Try.func151, Try.ntmps151
  go_wp2_with fail
  go_loopw [3, 11] (fun vs vi wr => Hid (CatSum n m vi vs) ∧ Hid (w = wr)) (fun _ vi _ => 2 - (intOf vi).toNat)
  case atStart => exact ⟨.inl ⟨rfl, rfl⟩, (rfl : w = w)⟩
  case round =>
    obtain ⟨CS, EW⟩ := hrel
    have ew : w = wr := EW
    subst ew
    rcases CS with ⟨rfl, rfl⟩ | ⟨rfl, rfl⟩ | ⟨rfl, rfl⟩
    · go_wp2_with fail
      go_roundw
      case measure => simp [intOf]
      case rel => exact ⟨.inr (.inl ⟨rfl, rfl⟩), trivial⟩
    · go_wp2_with fail
      go_roundw
      case measure => simp [intOf]
      case rel => exact ⟨.inr (.inr ⟨rfl, by rw [← HMZ.out]⟩), trivial⟩
    · have HG := hid (grow170 w m (by omega))
      go_wp2_with fail
      refine HG.out.mono ?_
      rintro e w1 ⟨v, rfl, hv, hb1⟩
      have HV := hid hv
      have HB1 := hid hb1
      clear hv hb1
      go_wp2_with fail
      go_loopw [6, 27] (fun va vi wr => Hid (CatRow w cs cs' vi va wr)) (fun _ vi _ => 2 - (intOf vi).toNat)
      case atStart => exact ⟨HB1.out, .inl ⟨rfl, HV.out⟩⟩
      case round =>
        obtain ⟨BW, CR⟩ := hrel
        have hbk := HBK.out.below BW HBK.out.lt
        have d0 : wr.cell? ⟨b, 0, none⟩ = some (.slice A n c) := (Blk.cell hbk 0).trans rfl
        have d1 : wr.cell? ⟨b, 1, none⟩ = some (.slice A' n' c') := (Blk.cell hbk 1).trans rfl
        have R0 := hid ((H.out.below BW).reads)
        have R1 := hid ((H'.out.below BW).reads)
        have BWH := hid BW
        have SZ := BW.size
        clear hbk BW
        rcases CR with ⟨rfl, hv⟩ | ⟨rfl, hv⟩ | ⟨rfl, hv⟩
        · have HV2 := hid hv
          clear hv
          go_wp2_with (at_builtin; refine wpList_append_any _ rfl (.tmp 31) (.tmp 32) _ rfl w.heap.size 32 i0 _ 2 16 Try.underlying23 hi0 hz0 hz1 hz2 rfl (by omega) _ _ _ rfl HV2.out w.heap.size A n c (flat cs) rfl R0.out (flat_one cs) (by simp only [maxLen]; omega) (by omega) SZ ?_; intro v1 w1' hown1 hg1 hat1; have hb2 := BWH.out.grown hg1 SZ (fun g hg => (World.ownsRow.lt HV2.out g hg).1); have HO1 := hid hown1; have HB2 := hid hb2; clear hown1 hg1 hat1 hb2)
          go_roundw
          case measure => simp [intOf]
          case rel => exact ⟨HB2.out, .inr (.inl ⟨rfl, by rw [hl.out]; have := HO1.out; simpa using this⟩)⟩
        · have HV2 := hid hv
          clear hv
          go_wp2_with (at_builtin; refine wpList_append_any _ rfl (.tmp 31) (.tmp 32) _ rfl w.heap.size 32 i0 _ 2 16 Try.underlying23 hi0 hz0 hz1 hz2 rfl (by omega) _ _ _ rfl HV2.out w.heap.size A' n' c' (flat cs') rfl R1.out (flat_one cs') (by simp only [maxLen]; have := hl.out; omega) (by have := hl.out; omega) SZ ?_; intro v1 w1' hown1 hg1 hat1; have hb2 := BWH.out.grown hg1 SZ (fun g hg => (World.ownsRow.lt HV2.out g hg).1); have HO1 := hid hown1; have HB2 := hid hb2; clear hown1 hg1 hat1 hb2)
          go_roundw
          case measure => simp [intOf]
          case rel => exact ⟨HB2.out, .inr (.inr ⟨rfl, by rw [hl'.out]; exact HO1.out⟩)⟩
        · have HV2 := hid hv
          clear hv
          go_wp2_with fail
          go_ret
          exact ⟨_, rfl, OwnCats.of_own (by rw [List.length_append, flat_append]; exact HV2.out), BWH.out⟩
end Go.Proofs.Ytndohmimcbmhdaa
