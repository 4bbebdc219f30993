/- Slices of numbers in memory. -/
import Derived.Test.YtndohmimcbmhdaaSt
set_option linter.unusedVariables false
set_option linter.unusedSimpArgs false
namespace Go.Proofs.Ytndohmimcbmhdaa
open Go.RowKit Go.Sort

def nums (l : List Int) : List Value := l.map (Value.int .u64)
@[simp] theorem nums_length (l : List Int) : (nums l).length = l.length := by simp [nums]
theorem nums_append (a b : List Int) : nums (a ++ b) = nums a ++ nums b := by simp [nums]
theorem nums_one (l : List Int) : ∀ v ∈ nums l, v.oneCell' = true := by
  intro v hv
  simp only [nums, List.mem_map] at hv
  obtain ⟨x, _, rfl⟩ := hv
  rfl
theorem u64_info : (Try.prog.info? 24).map (fun i => (i.zero, i.size, i.bytes)) = some (some (.int .u64 0), 1, 8) := by kernel_rfl

/-- A slice value that reads as numbers, below block B. -/
structure NumsAt (w : World) (B : Nat) (A : Option Addr) (n c : Nat) (l : List Int) : Prop where
  len : l.length = n
  cap : n ≤ c
  max : c ≤ maxLen
  reads : Reads w B 1 A n (nums l)

section
variable {w w' : World} {B B' : Nat} {A : Option Addr} {n c : Nat} {l : List Int}
theorem NumsAt.below (h : NumsAt w B A n c l) (hb : Below B w w') : NumsAt w' B A n c l := ⟨h.len, h.cap, h.max, h.reads.below hb⟩
theorem NumsAt.more (h : NumsAt w B A n c l) (hB : B ≤ B') : NumsAt w B' A n c l := ⟨h.len, h.cap, h.max, h.reads.more hB⟩
theorem NumsAt.at_ (h : NumsAt w B A n c l) {k : Nat} (hk : k < n) : ∃ ad x, A = some ad ∧ ad.block < B ∧ l[k]? = some x ∧ w.cell? (ad.add k) = some (.int .u64 x) := by
  obtain ⟨ad, u, e, hb, hx, hc⟩ := h.reads.at_ hk
  have hl : k < l.length := by have := h.len; omega
  refine ⟨ad, l[k], e, hb, List.getElem?_eq_getElem hl, ?_⟩
  rw [hc]
  have : (nums l)[k]? = some (.int .u64 l[k]) := by simp [nums, List.getElem?_eq_getElem hl]
  rw [this] at hx
  exact hx.symm
theorem NumsAt.of_own {base : Nat} {v : Value} (h : w.ownsRow base 24 1 v l.length (nums l)) : ∃ A n c, v = .slice A n c ∧ NumsAt w w.heap.size A n c l := by
  rcases h.2 with ⟨rfl, h0⟩ | ⟨g, cap, cur, rfl, hb, hh, hnc, hcm, _⟩
  · exact ⟨none, 0, 0, rfl, h0, Nat.le_refl _, by simp [maxLen], by
      have : l = [] := List.eq_nil_of_length_eq_zero h0
      subst this; exact Reads.none_⟩
  · exact ⟨_, l.length, cap, rfl, rfl, hnc, hcm, Reads.of_own h⟩
end

theorem num_new (W : World) (x : Value) : Reads (W.alloc (.cells #[x] 24)) (W.heap.size + 1) 1 (some ⟨W.heap.size, 0, none⟩) 1 [x] := by
  refine ⟨rfl, fun _ => ⟨_, rfl, Nat.lt_succ_self _, fun j u hu => ?_⟩⟩
  have hB := Blk.new W 24 #[x]
  match j, hu with
  | 0, hu => simp at hu; subst hu; exact (Blk.cell hB 0).trans rfl

/-! ### One step of the rising list -/
theorem insS_snoc (c : Int) (l : List Int) (k : Nat) (x : Int) (h : l[k]? = some x) : insS c (l.take (k + 1)) = stepI c (insS c (l.take k)) x := by
  unfold insS
  rw [List.take_add_one, h]
  simp
theorem insS_len (c : Int) : ∀ (l : List Int), (insS c l).1.length ≤ l.length + (insS c l).2.toNat := by
  have key : ∀ (l : List Int) (s : List Int × Bool) (m : Nat), s.1.length ≤ m + s.2.toNat → (l.foldl (stepI c) s).1.length ≤ m + l.length + (l.foldl (stepI c) s).2.toNat := by
    intro l
    induction l with
    | nil => intro s m h; exact h
    | cons x l ih =>
      intro s m h
      rw [List.foldl_cons]
      have := ih (stepI c s x) (m + 1) (by
        obtain ⟨a, b⟩ := s
        cases b <;> by_cases h1 : x ≥ c <;> by_cases h2 : x = c <;> simp [stepI, h1, h2, Bool.toNat] at h ⊢ <;> omega)
      simp only [List.length_cons]
      omega
  intro l
  have := key l ([], false) 0 (Nat.le_refl _)
  rw [Nat.zero_add] at this
  exact this
theorem idsL_snoc (cs : List (Int × Int)) (k : Nat) (x : Int × Int) (h : cs[k]? = some x) (pre : List (Int × Int)) : idsL (pre ++ cs.take (k + 1)) = insL x.1 (idsL (pre ++ cs.take k)) := by
  unfold idsL
  rw [List.take_add_one, h, ← List.append_assoc, List.foldl_append]
  simp

/-! ### The document's Level, pick -/
set_option maxHeartbeats 1000000 in
theorem level38 (w : World) (d : Int) (A : Option Addr) (n c : Nat) (cs : List (Int × Int)) (id : Int) (h : CatsAt w w.heap.size A n c cs) :
    Calls Try.prog 38 #[.agg #[.int .i64 d, .slice A n c], .int .u64 id] w fun e w' => LevelSays d cs id w e w' := by
  have hm : n ≤ 9223372036854775807 := by have := h.cap; have := h.max; unfold maxLen at this; omega
  have H := hid h
  clear h
  go_enter Try.func38, Try.ntmps38
  go_wp2_with fail
  go_loopw [10] (fun vi wr => ∃ k : Nat, k ≤ n ∧ vi = .int .i64 k ∧ Hid (Grew w wr ∧ Blk wr w.heap.size 26 #[.int .i64 d, .slice A n c]) ∧ Hid (∀ (j : Nat) (y : Int × Int), j < k → cs[j]? = some y → ¬ y.1 = id)) (fun vi _ => n - (intOf vi).toNat)
  case atStart => exact ⟨0, Nat.zero_le _, rfl, ⟨(Grew.refl _).alloc _, Blk.new _ _ _⟩, fun j y hj => absurd hj (Nat.not_lt_zero _)⟩
  case round =>
    obtain ⟨k, hk, rfl, BW, AL⟩ := hrel
    have hbw : Below w.heap.size w wr := BW.out.1.below
    have hB : Blk wr w.heap.size 26 #[.int .i64 d, .slice A n c] := BW.out.2
    have b0 : wr.cell? ⟨w.heap.size, 0, none⟩ = some (.int .i64 d) := (Blk.cell hB 0).trans rfl
    by_cases hlt : k < n
    · have hltz : (k : Int) < (n : Int) := by omega
      obtain ⟨b, off, x, rfl, hbB, hx, c0, c1⟩ := (H.out.below hbw).at_ hlt
      have HX := hid hx
      clear hx hB
      by_cases hq : x.1 = id
      · have HL : Hid (levelL d cs id = x.2) := levelL_hit HX.out hq AL.out
        go_wp2_with fail
        go_ret
        exact ⟨by rw [HL.out]; rfl, BW.out.1.alloc _⟩
      · go_wp2_with fail
        go_roundw
        case measure => simp [intOf] <;> omega
        case rel =>
          refine ⟨k + 1, by omega, by go_num, ⟨BW.out.1.alloc _, BW.out.2.alloc _⟩, (show Hid _ from fun j y hj hy => ?_)⟩
          by_cases e : j = k
          · subst e
            have := HX.out
            rw [hy] at this; cases this
            exact hq
          · exact AL.out j y (by omega) hy
    · have hltz : ¬ (k : Int) < (n : Int) := by omega
      have HL : Hid (levelL d cs id = d) := levelL_miss fun j y hy => AL.out j y (by have := (List.getElem?_eq_some_iff.1 hy).1; have := H.out.len; omega) hy
      go_wp2_with fail
      go_ret
      exact ⟨by rw [HL.out]; rfl, BW.out.1⟩
theorem level38_b (w : World) (d : Int) (A : Option Addr) (n c : Nat) (cs : List (Int × Int)) (id : Int) (h : CatsAt w w.heap.size A n c cs) :
    Calls Try.prog 38 #[.agg #[.int .i64 d, .slice A n c], .int .u64 id] w fun e w' => e = .returned (.int .i64 (levelL d cs id)) ∧ Below w.heap.size w w' :=
  (level38 w d A n c cs id h).mono fun e w' ⟨he, q, os, hw⟩ => ⟨he, by subst hw; exact grown_below q os⟩

def pickF (g : Bool) (x y : Int) : Int := if g then max x y else min x y
set_option maxHeartbeats 400000 in
theorem pick106 (w : World) (x y : Int) (g : Bool) : Calls Try.prog 106 #[.int .i64 x, .int .i64 y, .bool g] w fun e w' => e = .returned (.int .i64 (pickF g x y)) ∧ w = w' := by
  by_cases h : y < x
  · have hd : decide (y < x) = true := decide_eq_true h
    cases g with
    | true =>
      have HP : Hid (pickF true x y = x) := by unfold pickF; simp only [if_true]; show max x y = x; omega
      go_enter Try.func106, Try.ntmps106
      go_wp2_with fail
      go_ret
      exact ⟨by rw [HP.out]; rfl, rfl⟩
    | false =>
      have HP : Hid (pickF false x y = y) := by unfold pickF; simp only [Bool.false_eq_true, if_false]; show min x y = y; omega
      go_enter Try.func106, Try.ntmps106
      go_wp2_with fail
      go_ret
      exact ⟨by rw [HP.out]; rfl, rfl⟩
  · have hd : decide (y < x) = false := decide_eq_false h
    cases g with
    | true =>
      have HP : Hid (pickF true x y = y) := by unfold pickF; simp only [if_true]; show max x y = y; omega
      go_enter Try.func106, Try.ntmps106
      go_wp2_with fail
      go_ret
      exact ⟨by rw [HP.out]; rfl, rfl⟩
    | false =>
      have HP : Hid (pickF false x y = x) := by unfold pickF; simp only [Bool.false_eq_true, if_false]; show min x y = x; omega
      go_enter Try.func106, Try.ntmps106
      go_wp2_with fail
      go_ret
      exact ⟨by rw [HP.out]; rfl, rfl⟩
end Go.Proofs.Ytndohmimcbmhdaa
