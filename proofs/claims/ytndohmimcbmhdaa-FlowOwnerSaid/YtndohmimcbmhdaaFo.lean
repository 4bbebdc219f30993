/- flow's checks and the document's. -/
import Derived.Test.YtndohmimcbmhdaaFc
set_option linter.unusedVariables false
set_option linter.unusedSimpArgs false
namespace Go.Proofs.Ytndohmimcbmhdaa
open Go.RowKit Go.Sort

def ownGate (d : Int) (l : List (Int × Int)) (a c : Int) : Bool := (((!(rightB d l) || decide (a < 1)) || decide (4 < a)) || decide (c < 1)) || decide (2305843009213693951 < c)
theorem own_gate {d : Int} {l : List (Int × Int)} {a c : Int} (h : ownGate d l a c = false) : rightB d l = true ∧ 1 ≤ a ∧ a ≤ 4 := by
  unfold ownGate at h
  simp only [Bool.or_eq_false_iff, decide_eq_false_iff_not, Bool.not_eq_false'] at h
  exact ⟨h.1.1.1.1, by omega, by omega⟩
theorem right_levels {d : Int} {l : List (Int × Int)} (h : rightB d l = true) : (1 ≤ d ∧ d ≤ 4) ∧ ∀ id, 0 ≤ levelL d l id ∧ levelL d l id ≤ 4 := by
  unfold rightB at h
  simp only [Bool.and_eq_true, decide_eq_true_eq, Bool.not_eq_true', List.any_eq_false] at h
  obtain ⟨h1, _, h3⟩ := h
  refine ⟨⟨h1.1, h1.2.1⟩, fun id => ?_⟩
  unfold levelL
  cases hf : l.find? (fun c => c.1 == id) with
  | none => exact ⟨by dsimp only; omega, by dsimp only; omega⟩
  | some c =>
    have := h3 c (List.mem_of_find?_eq_some hf)
    unfold oddC at this
    simp only [decide_eq_true_eq] at this
    dsimp only
    omega
section
variable {d : Int} {l : List (Int × Int)} (hr : rightB d l = true) (c : Int)
theorem set_twice (a b : Int) (m : List (Int × Int)) : formL d ((c, b) :: formL d ((c, a) :: m)) = formL d ((c, b) :: m) :=
  (formL_is _ _).same (formL_is _ _) fun id => by
    rw [levelL_cons, levelL_cons, level_form, levelL_cons]
    split <;> rfl
include hr in
theorem raise_def : turnF 0 5 d d = d := by
  have := (right_levels hr).1
  exact if_neg (by omega)
include hr in
theorem raise_at (id : Int) : levelL d (raiseL d l) id = if levelL d l id = 0 then 5 else levelL d l id := by
  have := level_raise d l id
  rw [raise_def hr] at this
  exact this
include hr in
theorem set_raised (k id : Int) : levelL d (raiseL d (formL d ((c, k) :: l))) id = if c = id then (if k = 0 then 5 else k) else (if levelL d l id = 0 then 5 else levelL d l id) := by
  have := level_raise d (formL d ((c, k) :: l)) id
  rw [raise_def hr, level_form, levelL_cons] at this
  rw [this]
  unfold turnF
  by_cases h : c = id
  · rw [if_pos h, if_pos h]
  · rw [if_neg h, if_neg h]
include hr in
theorem own_reads (k a : Int) (hk : k = 0 ∨ k = 4) (ha : a ≤ 4) : readsB d (formL d ((c, k) :: l)) d (formL d ((c, a) :: raiseL d l)) = true := by
  unfold readsB
  rw [raise_def hr]
  refine leqB_true (Int.le_refl _) fun id => ?_
  rw [level_form, levelL_cons, raise_at hr, set_raised hr]
  by_cases h : c = id
  · rw [if_pos h, if_pos h]
    split <;> omega
  · rw [if_neg h, if_neg h]
    exact Int.le_refl _
include hr in
theorem own_leq (k a : Int) : leqB d (formL d ((c, k) :: l)) d (formL d ((c, a) :: raiseL d l)) = decide (k ≤ a) := by
  rw [Bool.eq_iff_iff, leqB_iff, decide_eq_true_eq]
  constructor
  · intro h
    have := h.2 c
    rw [level_form, level_form, levelL_cons, levelL_cons, if_pos rfl, if_pos rfl] at this
    exact this
  · intro h
    refine ⟨Int.le_refl _, fun id => ?_⟩
    rw [level_form, level_form, levelL_cons, levelL_cons, raise_at hr]
    by_cases e : c = id
    · rw [if_pos e, if_pos e]; exact h
    · rw [if_neg e, if_neg e]
      have := (right_levels hr).2 id
      split <;> omega
include hr in
theorem own_writes (k a : Int) (hk : k = 0 ∨ k = 4) (ha : a ≤ 4) : writesB d (formL d ((c, k) :: l)) d (formL d ((c, a) :: raiseL d l)) = decide (k ≤ a) := by
  unfold writesB
  rw [own_reads hr c k a hk ha, own_leq hr c k a, Bool.true_and]
end

set_option maxHeartbeats 4000000 in
set_option maxRecDepth 100000 in
theorem f54u (w : World) (d0 : Int) (A0 : Option Addr) (n0 c0 : Nat) (l0 : List (Int × Int)) (e0 : Int) (E0 : Option Addr) (m0 k0 : Nat) (r0 : List (Int × Int)) (d1 : Int) (A1 : Option Addr) (n1 c1 : Nat) (l1 : List (Int × Int)) (t0 : CatsAt w w.heap.size A0 n0 c0 l0) (z0 : n0 ≤ 67108864) (u0 : CatsAt w w.heap.size E0 m0 k0 r0) (t1 : CatsAt w w.heap.size A1 n1 c1 l1) (z1 : n1 ≤ 67108864) :
    Calls Try.prog 54 #[.agg #[.int .i64 d0, .slice A0 n0 c0, .int .i64 e0, .slice E0 m0 k0], .agg #[.int .i64 d1, .slice A1 n1 c1]] w fun e w' => e = .returned (.bool (readsB d0 l0 d1 l1)) ∧ Below w.heap.size w w' := by
  have mixed : Try.prog.follows .mixedOrders = true := by kernel_rfl
  obtain ⟨q0, q1, q2⟩ := two_blk w #[.int .i64 d0, .slice A0 n0 c0, .int .i64 e0, .slice E0 m0 k0] #[.int .i64 d1, .slice A1 n1 c1] 43 26
  have HB := hid q0
  have HP0 := hid q1
  have HP1 := hid q2
  have H0 := hid ((t0.below q0).more q0.size)
  have G0 := hid ((u0.below q0).more q0.size)
  have H1 := hid ((t1.below q0).more q0.size)
  have HE : Hid ((readsB d0 l0 d1 l1) = (risesP [(d1, l1), (turnF 0 5 d0 d0, raiseL d0 l0)])) := by show _ = _; unfold readsB; simp [risesP]
  clear t0 u0 t1 q0 q1 q2
  go_enter Try.func54, Try.ntmps54
  go_wp2_with fail
  generalize (w.alloc (.cells #[.int .i64 d0, .slice A0 n0 c0, .int .i64 e0, .slice E0 m0 k0] 43)).alloc (.cells #[.int .i64 d1, .slice A1 n1 c1] 26) = wa at *
  have HF : Hid (∀ W, But nil_ wa W → (W.cell? ⟨w.heap.size, 0, none⟩ = some (.int .i64 d0) ∧ W.cell? ⟨w.heap.size, 1, none⟩ = some (.slice A0 n0 c0) ∧ W.cell? ⟨w.heap.size, 2, none⟩ = some (.int .i64 e0) ∧ W.cell? ⟨w.heap.size, 3, none⟩ = some (.slice E0 m0 k0)) ∧ (W.cell? ⟨w.heap.size + 1, 0, none⟩ = some (.int .i64 d1) ∧ W.cell? ⟨w.heap.size + 1, 1, none⟩ = some (.slice A1 n1 c1))) := fun W hW => ⟨(hW.blk HP0.out (fun h => h)).cells4, (hW.blk HP1.out (fun h => h)).cells2⟩
  refine wp_region_told 7 nil_ mixed (by kernel_rfl) ?_
  simp only [List.take_succ_cons, List.take_zero, List.drop_succ_cons, List.drop_zero]
  repeat (refine told_val (v := ?_) (fun _ => rfl) (fun vs W hW => ?_) ?_; rotate_left; (focus (have hf := HF.out W hW; clear hW; go_simp; exact loose_val)); simp only [Act.put, List.setIfInBounds_toArray, List.set_cons_zero, List.set_cons_succ, List.nil_append, List.cons_append, Nat.reduceAdd, Leaves.at])
  refine told_rel (LabR (turnF 0 5 d0 d0) (raiseL d0 l0)) LabR.stable (fun _ => rfl) (fun vs W hW hd => ?_) ?_
  · clear hd
    go_simp
    exact loose_callR (raise46_l W d0 A0 n0 c0 l0 (H0.out.since_ hW) (by omega))
  simp only [Act.put, List.setIfInBounds_toArray, List.set_cons_zero, List.set_cons_succ, List.nil_append, List.cons_append, Nat.reduceAdd, Leaves.at]
  refine told_rel (LabsR [(d1, l1), (turnF 0 5 d0 d0, raiseL d0 l0)]) LabsR.stable (fun _ => rfl) (fun vs W hW hd => ?_) ?_
  · obtain ⟨P3, m3', k3', e3', hT3⟩ := hd ⟨3, .data⟩ (by simp) rfl _ rfl (fun h => by cases h)
    clear hd
    have hf := HF.out W hW
    have hmem := hid (List.forall_mem_cons.2 ⟨H1.out.since_ hW, List.forall_mem_cons.2 ⟨hT3, fun _ h => nomatch h⟩⟩ : ∀ l ∈ [(⟨d1, A1, n1, c1, l1⟩ : LabV), (⟨turnF 0 5 d0 d0, P3, m3', k3', raiseL d0 l0⟩ : LabV)], l.at_ W)
    clear hW
    go_simp
    exact loose_labs _ hmem.out
  simp only [Act.put, List.setIfInBounds_toArray, List.set_cons_zero, List.set_cons_succ, List.nil_append, List.cons_append, Nat.reduceAdd, Leaves.at]
  refine told_val' (v := .bool (risesP [(d1, l1), (turnF 0 5 d0 d0, raiseL d0 l0)])) (fun _ => rfl) (fun vs W hW hd => ?_) ?_
  · have hl := hd ⟨4, .data⟩ (by simp) rfl _ rfl (fun h => by cases h)
    have hr := hid (rises_R hl (by simp) (by simp))
    clear hd hl
    go_simp
    exact loose_call hr.out
  simp only [Act.put, List.setIfInBounds_toArray, List.set_cons_zero, List.set_cons_succ, List.nil_append, List.cons_append, Nat.reduceAdd, Leaves.at]
  repeat (refine told_val (v := ?_) (fun _ => rfl) (fun vs W hW => ?_) ?_; rotate_left; (focus (have hf := HF.out W hW; clear hW; go_simp; exact loose_val)); simp only [Act.put, List.setIfInBounds_toArray, List.set_cons_zero, List.set_cons_succ, List.nil_append, List.cons_append, Nat.reduceAdd, Leaves.at])
  refine told_nil ?_
  intro vs W hW hok hap
  clear hap
  dsimp only
  have HB2 := hid (HB.out.trans (since_below hW HB.out.size))
  clear hok hW
  go_wp2_with fail
  go_ret
  exact ⟨by rw [HE.out]; rfl, HB2.out⟩

set_option maxHeartbeats 4000000 in
set_option maxRecDepth 100000 in
theorem f56u (w : World) (d0 : Int) (A0 : Option Addr) (n0 c0 : Nat) (l0 : List (Int × Int)) (e0 : Int) (E0 : Option Addr) (m0 k0 : Nat) (r0 : List (Int × Int)) (d1 : Int) (A1 : Option Addr) (n1 c1 : Nat) (l1 : List (Int × Int)) (t0 : CatsAt w w.heap.size A0 n0 c0 l0) (z0 : n0 ≤ 67108864) (u0 : CatsAt w w.heap.size E0 m0 k0 r0) (t1 : CatsAt w w.heap.size A1 n1 c1 l1) (z1 : n1 ≤ 67108864) :
    Calls Try.prog 56 #[.agg #[.int .i64 d0, .slice A0 n0 c0, .int .i64 e0, .slice E0 m0 k0], .agg #[.int .i64 d1, .slice A1 n1 c1]] w fun e w' => e = .returned (.bool (writesB d0 l0 d1 l1)) ∧ Below w.heap.size w w' := by
  have mixed : Try.prog.follows .mixedOrders = true := by kernel_rfl
  obtain ⟨q0, q1, q2⟩ := two_blk w #[.int .i64 d0, .slice A0 n0 c0, .int .i64 e0, .slice E0 m0 k0] #[.int .i64 d1, .slice A1 n1 c1] 43 26
  have HB := hid q0
  have HP0 := hid q1
  have HP1 := hid q2
  have H0 := hid ((t0.below q0).more q0.size)
  have G0 := hid ((u0.below q0).more q0.size)
  have H1 := hid ((t1.below q0).more q0.size)
  have HE : Hid ((writesB d0 l0 d1 l1) = (risesP [(d0, l0), (d1, l1), (turnF 0 5 d0 d0, raiseL d0 l0)])) := by show _ = _; unfold writesB readsB; simp [risesP, Bool.and_comm]
  clear t0 u0 t1 q0 q1 q2
  go_enter Try.func56, Try.ntmps56
  go_wp2_with fail
  generalize (w.alloc (.cells #[.int .i64 d0, .slice A0 n0 c0, .int .i64 e0, .slice E0 m0 k0] 43)).alloc (.cells #[.int .i64 d1, .slice A1 n1 c1] 26) = wa at *
  have HF : Hid (∀ W, But nil_ wa W → (W.cell? ⟨w.heap.size, 0, none⟩ = some (.int .i64 d0) ∧ W.cell? ⟨w.heap.size, 1, none⟩ = some (.slice A0 n0 c0) ∧ W.cell? ⟨w.heap.size, 2, none⟩ = some (.int .i64 e0) ∧ W.cell? ⟨w.heap.size, 3, none⟩ = some (.slice E0 m0 k0)) ∧ (W.cell? ⟨w.heap.size + 1, 0, none⟩ = some (.int .i64 d1) ∧ W.cell? ⟨w.heap.size + 1, 1, none⟩ = some (.slice A1 n1 c1))) := fun W hW => ⟨(hW.blk HP0.out (fun h => h)).cells4, (hW.blk HP1.out (fun h => h)).cells2⟩
  refine wp_region_told 9 nil_ mixed (by kernel_rfl) ?_
  simp only [List.take_succ_cons, List.take_zero, List.drop_succ_cons, List.drop_zero]
  repeat (refine told_val (v := ?_) (fun _ => rfl) (fun vs W hW => ?_) ?_; rotate_left; (focus (have hf := HF.out W hW; clear hW; go_simp; exact loose_val)); simp only [Act.put, List.setIfInBounds_toArray, List.set_cons_zero, List.set_cons_succ, List.nil_append, List.cons_append, Nat.reduceAdd, Leaves.at])
  refine told_rel (LabR (turnF 0 5 d0 d0) (raiseL d0 l0)) LabR.stable (fun _ => rfl) (fun vs W hW hd => ?_) ?_
  · clear hd
    go_simp
    exact loose_callR (raise46_l W d0 A0 n0 c0 l0 (H0.out.since_ hW) (by omega))
  simp only [Act.put, List.setIfInBounds_toArray, List.set_cons_zero, List.set_cons_succ, List.nil_append, List.cons_append, Nat.reduceAdd, Leaves.at]
  refine told_rel (LabsR [(d0, l0), (d1, l1), (turnF 0 5 d0 d0, raiseL d0 l0)]) LabsR.stable (fun _ => rfl) (fun vs W hW hd => ?_) ?_
  · obtain ⟨P5, m5', k5', e5', hT5⟩ := hd ⟨5, .data⟩ (by simp) rfl _ rfl (fun h => by cases h)
    clear hd
    have hf := HF.out W hW
    have hmem := hid (List.forall_mem_cons.2 ⟨H0.out.since_ hW, List.forall_mem_cons.2 ⟨H1.out.since_ hW, List.forall_mem_cons.2 ⟨hT5, fun _ h => nomatch h⟩⟩⟩ : ∀ l ∈ [(⟨d0, A0, n0, c0, l0⟩ : LabV), (⟨d1, A1, n1, c1, l1⟩ : LabV), (⟨turnF 0 5 d0 d0, P5, m5', k5', raiseL d0 l0⟩ : LabV)], l.at_ W)
    clear hW
    go_simp
    exact loose_labs _ hmem.out
  simp only [Act.put, List.setIfInBounds_toArray, List.set_cons_zero, List.set_cons_succ, List.nil_append, List.cons_append, Nat.reduceAdd, Leaves.at]
  refine told_val' (v := .bool (risesP [(d0, l0), (d1, l1), (turnF 0 5 d0 d0, raiseL d0 l0)])) (fun _ => rfl) (fun vs W hW hd => ?_) ?_
  · have hl := hd ⟨6, .data⟩ (by simp) rfl _ rfl (fun h => by cases h)
    have hr := hid (rises_R hl (by simp) (by simp))
    clear hd hl
    go_simp
    exact loose_call hr.out
  simp only [Act.put, List.setIfInBounds_toArray, List.set_cons_zero, List.set_cons_succ, List.nil_append, List.cons_append, Nat.reduceAdd, Leaves.at]
  repeat (refine told_val (v := ?_) (fun _ => rfl) (fun vs W hW => ?_) ?_; rotate_left; (focus (have hf := HF.out W hW; clear hW; go_simp; exact loose_val)); simp only [Act.put, List.setIfInBounds_toArray, List.set_cons_zero, List.set_cons_succ, List.nil_append, List.cons_append, Nat.reduceAdd, Leaves.at])
  refine told_nil ?_
  intro vs W hW hok hap
  clear hap
  dsimp only
  have HB2 := hid (HB.out.trans (since_below hW HB.out.size))
  clear hok hW
  go_wp2_with fail
  go_ret
  exact ⟨by rw [HE.out]; rfl, HB2.out⟩

end Go.Proofs.Ytndohmimcbmhdaa
