/- flow's checks and the document's. -/
import Derived.Test.YtndohmimcbmhdaaFb
set_option linter.unusedVariables false
set_option linter.unusedSimpArgs false
namespace Go.Proofs.Ytndohmimcbmhdaa
open Go.RowKit Go.Sort

set_option maxHeartbeats 4000000 in
set_option maxRecDepth 100000 in
theorem f115v (w : World) (d0 : Int) (A0 : Option Addr) (n0 c0 : Nat) (l0 : List (Int × Int)) (e0 : Int) (E0 : Option Addr) (m0 k0 : Nat) (r0 : List (Int × Int)) (t0 : CatsAt w w.heap.size A0 n0 c0 l0) (z0 : n0 ≤ 8796093022207) (u0 : CatsAt w w.heap.size E0 m0 k0 r0) (y0 : m0 ≤ 8796093022207) :
    Calls Try.prog 115 #[.agg #[.int .i64 d0, .slice A0 n0 c0, .int .i64 e0, .slice E0 m0 k0]] w fun e w' => e = .returned (.bool (whoB d0 l0 e0 r0)) ∧ Below w.heap.size w w' := by
  have mixed : Try.prog.follows .mixedOrders = true := by kernel_rfl
  have HB : Hid (Below w.heap.size w (w.alloc (.cells #[.int .i64 d0, .slice A0 n0 c0, .int .i64 e0, .slice E0 m0 k0] 43))) := (Below.refl _ w).alloc (Nat.le_refl _) _
  have HP0 : Hid (Blk (w.alloc (.cells #[.int .i64 d0, .slice A0 n0 c0, .int .i64 e0, .slice E0 m0 k0] 43)) w.heap.size 43 #[.int .i64 d0, .slice A0 n0 c0, .int .i64 e0, .slice E0 m0 k0]) := Blk.new w _ _
  have H0 := hid ((t0.below HB.out).more HB.out.size)
  have G0 := hid ((u0.below HB.out).more HB.out.size)
  have HE : Hid ((whoB d0 l0 e0 r0) = (rightB d0 l0 && pureB e0 r0)) := by show _ = _; rfl
  clear t0 u0
  go_enter Try.func115, Try.ntmps115
  go_wp2_with (refine wp_list_told 9 9 nil_ rfl (by decide) ?_)
  generalize w.alloc (.cells #[.int .i64 d0, .slice A0 n0 c0, .int .i64 e0, .slice E0 m0 k0] 43) = wa at *
  have HF : Hid (∀ W, But nil_ wa W → (W.cell? ⟨w.heap.size, 0, none⟩ = some (.int .i64 d0) ∧ W.cell? ⟨w.heap.size, 1, none⟩ = some (.slice A0 n0 c0) ∧ W.cell? ⟨w.heap.size, 2, none⟩ = some (.int .i64 e0) ∧ W.cell? ⟨w.heap.size, 3, none⟩ = some (.slice E0 m0 k0))) := fun W hW => (hW.blk HP0.out (fun h => h)).cells4
  simp only [List.take_succ_cons, List.take_zero, List.drop_succ_cons, List.drop_zero]
  have HA := hid (fun W (hW : But nil_ wa W) => right51 W d0 A0 n0 c0 l0 (H0.out.since_ hW))
  have HL := hid (fun W (hW : But nil_ wa W) => pure113 W e0 E0 m0 k0 r0 (G0.out.since_ hW))
  generalize rightB d0 l0 = q at *
  generalize pureB e0 r0 = p at *
  repeat (refine told_val (v := ?_) (fun _ => rfl) (fun vs W hW => ?_) ?_; rotate_left; (focus (have hf := HF.out W hW; clear hW; go_simp; exact loose_val)); simp only [Act.put, List.setIfInBounds_toArray, List.set_cons_zero, List.set_cons_succ, List.nil_append, List.cons_append, Nat.reduceAdd, Leaves.at])
  refine told_val (v := .bool q) (fun _ => rfl) (fun vs W hW => ?_) ?_
  · go_simp
    exact loose_call (HA.out W hW)
  simp only [Act.put, List.setIfInBounds_toArray, List.set_cons_zero, List.set_cons_succ, List.nil_append, List.cons_append, Nat.reduceAdd, Leaves.at]
  repeat (refine told_val (v := ?_) (fun _ => rfl) (fun vs W hW => ?_) ?_; rotate_left; (focus (have hf := HF.out W hW; clear hW; go_simp; exact loose_val)); simp only [Act.put, List.setIfInBounds_toArray, List.set_cons_zero, List.set_cons_succ, List.nil_append, List.cons_append, Nat.reduceAdd, Leaves.at])
  repeat (refine told_maybe (b := q) (v := ?_) (fun _ => Bool.casesOn q rfl rfl) (fun hb vs W hW => ?_) ?_; rotate_left; (focus (have hf := HF.out W hW; clear hW; (try simp only [hb, cond_true, cond_false]); go_simp; exact loose_val)); simp only [Act.put, List.setIfInBounds_toArray, List.set_cons_zero, List.set_cons_succ, List.nil_append, List.cons_append, Nat.reduceAdd, Leaves.at])
  refine told_maybe (b := q) (v := .bool p) (fun _ => Bool.casesOn q rfl rfl) (fun hb vs W hW => ?_) ?_
  · try simp only [hb, cond_true, cond_false]
    go_simp
    exact loose_call (HL.out W hW)
  simp only [Act.put, List.setIfInBounds_toArray, List.set_cons_zero, List.set_cons_succ, List.nil_append, List.cons_append, Nat.reduceAdd, Leaves.at]
  refine told_val (v := .bool (q && p)) (fun _ => rfl) (fun vs W hW => ?_) ?_
  · cases q <;> cases p <;> (go_simp; exact loose_val)
  simp only [Act.put, List.setIfInBounds_toArray, List.set_cons_zero, List.set_cons_succ, List.nil_append, List.cons_append, Nat.reduceAdd, Leaves.at]
  repeat (refine told_val (v := ?_) (fun _ => rfl) (fun vs W hW => ?_) ?_; rotate_left; (focus (have hf := HF.out W hW; clear hW; go_simp; exact loose_val)); simp only [Act.put, List.setIfInBounds_toArray, List.set_cons_zero, List.set_cons_succ, List.nil_append, List.cons_append, Nat.reduceAdd, Leaves.at])
  refine told_nil ?_
  intro vs W hW hok hap
  clear hap
  dsimp only
  have HB2 := hid (HB.out.trans (since_below hW HB.out.size))
  clear hok hW
  go_wp2_with fail
  go_ret
  exact ⟨by rw [HE.out]; rfl, HB2.out⟩

set_option maxHeartbeats 4000000 in
set_option maxRecDepth 100000 in
theorem f58v (w : World) (d0 : Int) (A0 : Option Addr) (n0 c0 : Nat) (l0 : List (Int × Int)) (e0 : Int) (E0 : Option Addr) (m0 k0 : Nat) (r0 : List (Int × Int)) (d1 : Int) (A1 : Option Addr) (n1 c1 : Nat) (l1 : List (Int × Int)) (t0 : CatsAt w w.heap.size A0 n0 c0 l0) (z0 : n0 ≤ 8796093022207) (u0 : CatsAt w w.heap.size E0 m0 k0 r0) (y0 : m0 ≤ 8796093022207) (t1 : CatsAt w w.heap.size A1 n1 c1 l1) (z1 : n1 ≤ 8796093022207) :
    Calls Try.prog 58 #[.agg #[.int .i64 d0, .slice A0 n0 c0, .int .i64 e0, .slice E0 m0 k0], .agg #[.int .i64 d1, .slice A1 n1 c1]] w fun e w' => e = .returned (.bool (makesB d0 l0 e0 r0 d1 l1)) ∧ Below w.heap.size w w' := by
  have mixed : Try.prog.follows .mixedOrders = true := by kernel_rfl
  obtain ⟨q0, q1, q2⟩ := two_blk w #[.int .i64 d0, .slice A0 n0 c0, .int .i64 e0, .slice E0 m0 k0] #[.int .i64 d1, .slice A1 n1 c1] 43 26
  have HB := hid q0
  have HP0 := hid q1
  have HP1 := hid q2
  have H0 := hid ((t0.below q0).more q0.size)
  have G0 := hid ((u0.below q0).more q0.size)
  have H1 := hid ((t1.below q0).more q0.size)
  have HE : Hid ((makesB d0 l0 e0 r0 d1 l1) = (pureB d1 l1 && risesP [(d0, l0), (d1, l1), (e0, r0)])) := by show _ = _; unfold makesB; simp [risesP]
  clear t0 u0 t1 q0 q1 q2
  go_enter Try.func58, Try.ntmps58
  go_wp2_with (refine wp_list_told 12 12 nil_ rfl (by decide) ?_)
  generalize (w.alloc (.cells #[.int .i64 d0, .slice A0 n0 c0, .int .i64 e0, .slice E0 m0 k0] 43)).alloc (.cells #[.int .i64 d1, .slice A1 n1 c1] 26) = wa at *
  have HF : Hid (∀ W, But nil_ wa W → (W.cell? ⟨w.heap.size, 0, none⟩ = some (.int .i64 d0) ∧ W.cell? ⟨w.heap.size, 1, none⟩ = some (.slice A0 n0 c0) ∧ W.cell? ⟨w.heap.size, 2, none⟩ = some (.int .i64 e0) ∧ W.cell? ⟨w.heap.size, 3, none⟩ = some (.slice E0 m0 k0)) ∧ (W.cell? ⟨w.heap.size + 1, 0, none⟩ = some (.int .i64 d1) ∧ W.cell? ⟨w.heap.size + 1, 1, none⟩ = some (.slice A1 n1 c1))) := fun W hW => ⟨(hW.blk HP0.out (fun h => h)).cells4, (hW.blk HP1.out (fun h => h)).cells2⟩
  simp only [List.take_succ_cons, List.take_zero, List.drop_succ_cons, List.drop_zero]
  have HPU := hid (fun W (hW : But nil_ wa W) => pure113 W d1 A1 n1 c1 l1 (H1.out.since_ hW))
  generalize pureB d1 l1 = q at *
  repeat (refine told_val (v := ?_) (fun _ => rfl) (fun vs W hW => ?_) ?_; rotate_left; (focus (have hf := HF.out W hW; clear hW; go_simp; exact loose_val)); simp only [Act.put, List.setIfInBounds_toArray, List.set_cons_zero, List.set_cons_succ, List.nil_append, List.cons_append, Nat.reduceAdd, Leaves.at])
  refine told_val (v := .bool q) (fun _ => rfl) (fun vs W hW => ?_) ?_
  · go_simp
    exact loose_call (HPU.out W hW)
  simp only [Act.put, List.setIfInBounds_toArray, List.set_cons_zero, List.set_cons_succ, List.nil_append, List.cons_append, Nat.reduceAdd, Leaves.at]
  repeat (refine told_val (v := ?_) (fun _ => rfl) (fun vs W hW => ?_) ?_; rotate_left; (focus (have hf := HF.out W hW; clear hW; go_simp; exact loose_val)); simp only [Act.put, List.setIfInBounds_toArray, List.set_cons_zero, List.set_cons_succ, List.nil_append, List.cons_append, Nat.reduceAdd, Leaves.at])
  cases q with
  | false =>
    repeat (first | (refine told_off (fun _ => rfl) ?_; simp only [Act.put, List.setIfInBounds_toArray, List.set_cons_zero, List.set_cons_succ, List.nil_append, List.cons_append, Nat.reduceAdd, Leaves.at]) | (refine told_val (v := ?_) (fun _ => rfl) (fun vs W hW => ?_) ?_; rotate_left; (focus (have hf := HF.out W hW; clear hW; go_simp; exact loose_val)); simp only [Act.put, List.setIfInBounds_toArray, List.set_cons_zero, List.set_cons_succ, List.nil_append, List.cons_append, Nat.reduceAdd, Leaves.at]))
    refine told_nil ?_
    intro vs W hW hok hap
    clear hap
    dsimp only
    have HB2 := hid (HB.out.trans (since_below hW HB.out.size))
    clear hok hW
    go_wp2_with fail
    go_ret
    exact ⟨by rw [HE.out]; rfl, HB2.out⟩
  | true =>
    repeat (refine told_val (v := ?_) (fun _ => rfl) (fun vs W hW => ?_) ?_; rotate_left; (focus (have hf := HF.out W hW; clear hW; go_simp; exact loose_val)); simp only [Act.put, List.setIfInBounds_toArray, List.set_cons_zero, List.set_cons_succ, List.nil_append, List.cons_append, Nat.reduceAdd, Leaves.at])
    refine told_rel (LabsR [(d0, l0), (d1, l1), (e0, r0)]) LabsR.stable (fun _ => rfl) (fun vs W hW hd => ?_) ?_
    · clear hd
      have hf := HF.out W hW
      have hmem := hid (List.forall_mem_cons.2 ⟨H0.out.since_ hW, List.forall_mem_cons.2 ⟨H1.out.since_ hW, List.forall_mem_cons.2 ⟨G0.out.since_ hW, fun _ h => nomatch h⟩⟩⟩ : ∀ l ∈ [(⟨d0, A0, n0, c0, l0⟩ : LabV), (⟨d1, A1, n1, c1, l1⟩ : LabV), (⟨e0, E0, m0, k0, r0⟩ : LabV)], l.at_ W)
      clear hW
      go_simp
      exact loose_labs _ hmem.out
    simp only [Act.put, List.setIfInBounds_toArray, List.set_cons_zero, List.set_cons_succ, List.nil_append, List.cons_append, Nat.reduceAdd, Leaves.at]
    refine told_val' (v := .bool (risesP [(d0, l0), (d1, l1), (e0, r0)])) (fun _ => rfl) (fun vs W hW hd => ?_) ?_
    · have hl := hd ⟨8, .data⟩ (by simp) rfl _ rfl (fun h => by cases h)
      have hr := hid (rises_R hl (by simp) (by simp))
      clear hd hl
      go_simp
      exact loose_call hr.out
    simp only [Act.put, List.setIfInBounds_toArray, List.set_cons_zero, List.set_cons_succ, List.nil_append, List.cons_append, Nat.reduceAdd, Leaves.at]
    repeat (refine told_val (v := ?_) (fun _ => rfl) (fun vs W hW => ?_) ?_; rotate_left; (focus (have hf := HF.out W hW; clear hW; go_simp; exact loose_val)); simp only [Act.put, List.setIfInBounds_toArray, List.set_cons_zero, List.set_cons_succ, List.nil_append, List.cons_append, Nat.reduceAdd, Leaves.at])
    refine told_nil ?_
    intro vs W hW hok hap
    clear hap
    dsimp only
    have HB2 := hid (HB.out.trans (since_below hW HB.out.size))
    clear hok hW
    go_wp2_with fail
    go_ret
    exact ⟨by rw [HE.out]; rfl, HB2.out⟩

set_option maxHeartbeats 4000000 in
set_option maxRecDepth 100000 in
theorem f59v (w : World) (d0 : Int) (A0 : Option Addr) (n0 c0 : Nat) (l0 : List (Int × Int)) (d1 : Int) (A1 : Option Addr) (n1 c1 : Nat) (l1 : List (Int × Int)) (d2 : Int) (A2 : Option Addr) (n2 c2 : Nat) (l2 : List (Int × Int)) (t0 : CatsAt w w.heap.size A0 n0 c0 l0) (z0 : n0 ≤ 8796093022207) (t1 : CatsAt w w.heap.size A1 n1 c1 l1) (z1 : n1 ≤ 8796093022207) (t2 : CatsAt w w.heap.size A2 n2 c2 l2) (z2 : n2 ≤ 8796093022207) :
    Calls Try.prog 59 #[.agg #[.int .i64 d0, .slice A0 n0 c0], .agg #[.int .i64 d1, .slice A1 n1 c1], .agg #[.int .i64 d2, .slice A2 n2 c2]] w fun e w' => e = .returned (.bool (makesB d0 l0 d1 l1 d2 l2)) ∧ Below w.heap.size w w' := by
  have mixed : Try.prog.follows .mixedOrders = true := by kernel_rfl
  obtain ⟨q0, q1, q2, q3⟩ := three_blk w #[.int .i64 d0, .slice A0 n0 c0] #[.int .i64 d1, .slice A1 n1 c1] #[.int .i64 d2, .slice A2 n2 c2] 26 26 26
  have HB := hid q0
  have HP0 := hid q1
  have HP1 := hid q2
  have HP2 := hid q3
  have H0 := hid ((t0.below q0).more q0.size)
  have H1 := hid ((t1.below q0).more q0.size)
  have H2 := hid ((t2.below q0).more q0.size)
  have HE : Hid ((makesB d0 l0 d1 l1 d2 l2) = (((rightB d2 l2 && pureD d2 l2) && leqB d0 l0 d2 l2) && leqB d2 l2 d1 l1)) := by show _ = _; unfold makesB; rw [← pure_both]; simp [Bool.and_assoc]
  clear t0 t1 t2 q0 q1 q2 q3
  go_enter Try.func59, Try.ntmps59
  go_wp2_with (refine wp_list_told 17 17 nil_ rfl (by decide) ?_)
  generalize ((w.alloc (.cells #[.int .i64 d0, .slice A0 n0 c0] 26)).alloc (.cells #[.int .i64 d1, .slice A1 n1 c1] 26)).alloc (.cells #[.int .i64 d2, .slice A2 n2 c2] 26) = wa at *
  have HF : Hid (∀ W, But nil_ wa W → (W.cell? ⟨w.heap.size, 0, none⟩ = some (.int .i64 d0) ∧ W.cell? ⟨w.heap.size, 1, none⟩ = some (.slice A0 n0 c0)) ∧ (W.cell? ⟨w.heap.size + 1, 0, none⟩ = some (.int .i64 d1) ∧ W.cell? ⟨w.heap.size + 1, 1, none⟩ = some (.slice A1 n1 c1)) ∧ (W.cell? ⟨w.heap.size + 1 + 1, 0, none⟩ = some (.int .i64 d2) ∧ W.cell? ⟨w.heap.size + 1 + 1, 1, none⟩ = some (.slice A2 n2 c2))) := fun W hW => ⟨(hW.blk HP0.out (fun h => h)).cells2, (hW.blk HP1.out (fun h => h)).cells2, (hW.blk HP2.out (fun h => h)).cells2⟩
  simp only [List.take_succ_cons, List.take_zero, List.drop_succ_cons, List.drop_zero]
  have HA := hid (fun W (hW : But nil_ wa W) => right52 W d2 A2 n2 c2 l2 (H2.out.since_ hW))
  have HU := hid (fun W (hW : But nil_ wa W) => pure114 W d2 A2 n2 c2 l2 (H2.out.since_ hW))
  have HL := hid (fun W (hW : But nil_ wa W) => leq41_b W d0 d2 A0 A2 n0 c0 n2 c2 l0 l2 (H0.out.since_ hW) (H2.out.since_ hW) (by omega))
  have HM := hid (fun W (hW : But nil_ wa W) => leq41_b W d2 d1 A2 A1 n2 c2 n1 c1 l2 l1 (H2.out.since_ hW) (H1.out.since_ hW) (by omega))
  generalize rightB d2 l2 = q1 at *
  generalize pureD d2 l2 = q2 at *
  generalize leqB d0 l0 d2 l2 = q3 at *
  generalize leqB d2 l2 d1 l1 = q4 at *
  repeat (refine told_val (v := ?_) (fun _ => rfl) (fun vs W hW => ?_) ?_; rotate_left; (focus (have hf := HF.out W hW; clear hW; go_simp; exact loose_val)); simp only [Act.put, List.setIfInBounds_toArray, List.set_cons_zero, List.set_cons_succ, List.nil_append, List.cons_append, Nat.reduceAdd, Leaves.at])
  refine told_val (v := .bool q1) (fun _ => rfl) (fun vs W hW => ?_) ?_
  · go_simp
    exact loose_call (HA.out W hW)
  simp only [Act.put, List.setIfInBounds_toArray, List.set_cons_zero, List.set_cons_succ, List.nil_append, List.cons_append, Nat.reduceAdd, Leaves.at]
  repeat (refine told_val (v := ?_) (fun _ => rfl) (fun vs W hW => ?_) ?_; rotate_left; (focus (have hf := HF.out W hW; clear hW; go_simp; exact loose_val)); simp only [Act.put, List.setIfInBounds_toArray, List.set_cons_zero, List.set_cons_succ, List.nil_append, List.cons_append, Nat.reduceAdd, Leaves.at])
  repeat (refine told_maybe (b := q1) (v := ?_) (fun _ => Bool.casesOn q1 rfl rfl) (fun hb vs W hW => ?_) ?_; rotate_left; (focus (have hf := HF.out W hW; clear hW; (try simp only [hb, cond_true, cond_false]); go_simp; exact loose_val)); simp only [Act.put, List.setIfInBounds_toArray, List.set_cons_zero, List.set_cons_succ, List.nil_append, List.cons_append, Nat.reduceAdd, Leaves.at])
  refine told_maybe (b := q1) (v := .bool q2) (fun _ => Bool.casesOn q1 rfl rfl) (fun hb vs W hW => ?_) ?_
  · try simp only [hb, cond_true, cond_false]
    go_simp
    exact loose_call (HU.out W hW)
  simp only [Act.put, List.setIfInBounds_toArray, List.set_cons_zero, List.set_cons_succ, List.nil_append, List.cons_append, Nat.reduceAdd, Leaves.at]
  refine told_val (v := .bool (q1 && q2)) (fun _ => rfl) (fun vs W hW => ?_) ?_
  · cases q1 <;> cases q2 <;> (go_simp; exact loose_val)
  simp only [Act.put, List.setIfInBounds_toArray, List.set_cons_zero, List.set_cons_succ, List.nil_append, List.cons_append, Nat.reduceAdd, Leaves.at]
  generalize (q1 && q2) = s1 at *
  repeat (refine told_val (v := ?_) (fun _ => rfl) (fun vs W hW => ?_) ?_; rotate_left; (focus (have hf := HF.out W hW; clear hW; go_simp; exact loose_val)); simp only [Act.put, List.setIfInBounds_toArray, List.set_cons_zero, List.set_cons_succ, List.nil_append, List.cons_append, Nat.reduceAdd, Leaves.at])
  repeat (refine told_maybe (b := s1) (v := ?_) (fun _ => Bool.casesOn s1 rfl rfl) (fun hb vs W hW => ?_) ?_; rotate_left; (focus (have hf := HF.out W hW; clear hW; (try simp only [hb, cond_true, cond_false]); go_simp; exact loose_val)); simp only [Act.put, List.setIfInBounds_toArray, List.set_cons_zero, List.set_cons_succ, List.nil_append, List.cons_append, Nat.reduceAdd, Leaves.at])
  refine told_maybe (b := s1) (v := .bool q3) (fun _ => Bool.casesOn s1 rfl rfl) (fun hb vs W hW => ?_) ?_
  · try simp only [hb, cond_true, cond_false]
    go_simp
    exact loose_call (HL.out W hW)
  simp only [Act.put, List.setIfInBounds_toArray, List.set_cons_zero, List.set_cons_succ, List.nil_append, List.cons_append, Nat.reduceAdd, Leaves.at]
  refine told_val (v := .bool (s1 && q3)) (fun _ => rfl) (fun vs W hW => ?_) ?_
  · cases s1 <;> cases q3 <;> (go_simp; exact loose_val)
  simp only [Act.put, List.setIfInBounds_toArray, List.set_cons_zero, List.set_cons_succ, List.nil_append, List.cons_append, Nat.reduceAdd, Leaves.at]
  generalize (s1 && q3) = s2 at *
  repeat (refine told_val (v := ?_) (fun _ => rfl) (fun vs W hW => ?_) ?_; rotate_left; (focus (have hf := HF.out W hW; clear hW; go_simp; exact loose_val)); simp only [Act.put, List.setIfInBounds_toArray, List.set_cons_zero, List.set_cons_succ, List.nil_append, List.cons_append, Nat.reduceAdd, Leaves.at])
  repeat (refine told_maybe (b := s2) (v := ?_) (fun _ => Bool.casesOn s2 rfl rfl) (fun hb vs W hW => ?_) ?_; rotate_left; (focus (have hf := HF.out W hW; clear hW; (try simp only [hb, cond_true, cond_false]); go_simp; exact loose_val)); simp only [Act.put, List.setIfInBounds_toArray, List.set_cons_zero, List.set_cons_succ, List.nil_append, List.cons_append, Nat.reduceAdd, Leaves.at])
  refine told_maybe (b := s2) (v := .bool q4) (fun _ => Bool.casesOn s2 rfl rfl) (fun hb vs W hW => ?_) ?_
  · try simp only [hb, cond_true, cond_false]
    go_simp
    exact loose_call (HM.out W hW)
  simp only [Act.put, List.setIfInBounds_toArray, List.set_cons_zero, List.set_cons_succ, List.nil_append, List.cons_append, Nat.reduceAdd, Leaves.at]
  refine told_val (v := .bool (s2 && q4)) (fun _ => rfl) (fun vs W hW => ?_) ?_
  · cases s2 <;> cases q4 <;> (go_simp; exact loose_val)
  simp only [Act.put, List.setIfInBounds_toArray, List.set_cons_zero, List.set_cons_succ, List.nil_append, List.cons_append, Nat.reduceAdd, Leaves.at]
  repeat (refine told_val (v := ?_) (fun _ => rfl) (fun vs W hW => ?_) ?_; rotate_left; (focus (have hf := HF.out W hW; clear hW; go_simp; exact loose_val)); simp only [Act.put, List.setIfInBounds_toArray, List.set_cons_zero, List.set_cons_succ, List.nil_append, List.cons_append, Nat.reduceAdd, Leaves.at])
  refine told_nil ?_
  intro vs W hW hok hap
  clear hap
  dsimp only
  have HB2 := hid (HB.out.trans (since_below hW HB.out.size))
  clear hok hW
  go_wp2_with fail
  go_ret
  exact ⟨by rw [HE.out]; rfl, HB2.out⟩

set_option maxHeartbeats 4000000 in
set_option maxRecDepth 100000 in
theorem f60v (w : World) (d0 : Int) (A0 : Option Addr) (n0 c0 : Nat) (l0 : List (Int × Int)) (e0 : Int) (E0 : Option Addr) (m0 k0 : Nat) (r0 : List (Int × Int)) (d1 : Int) (A1 : Option Addr) (n1 c1 : Nat) (l1 : List (Int × Int)) (d2 : Int) (A2 : Option Addr) (n2 c2 : Nat) (l2 : List (Int × Int)) (t0 : CatsAt w w.heap.size A0 n0 c0 l0) (z0 : n0 ≤ 8796093022207) (u0 : CatsAt w w.heap.size E0 m0 k0 r0) (y0 : m0 ≤ 8796093022207) (t1 : CatsAt w w.heap.size A1 n1 c1 l1) (z1 : n1 ≤ 8796093022207) (t2 : CatsAt w w.heap.size A2 n2 c2 l2) (z2 : n2 ≤ 8796093022207) :
    Calls Try.prog 60 #[.agg #[.int .i64 d0, .slice A0 n0 c0, .int .i64 e0, .slice E0 m0 k0], .agg #[.int .i64 d1, .slice A1 n1 c1], .agg #[.int .i64 d2, .slice A2 n2 c2]] w fun e w' => e = .returned (.bool (spawnsB d0 l0 e0 r0 d1 l1 d2 l2)) ∧ Below w.heap.size w w' := by
  have mixed : Try.prog.follows .mixedOrders = true := by kernel_rfl
  obtain ⟨q0, q1, q2, q3⟩ := three_blk w #[.int .i64 d0, .slice A0 n0 c0, .int .i64 e0, .slice E0 m0 k0] #[.int .i64 d1, .slice A1 n1 c1] #[.int .i64 d2, .slice A2 n2 c2] 43 26 26
  have HB := hid q0
  have HP0 := hid q1
  have HP1 := hid q2
  have HP2 := hid q3
  have H0 := hid ((t0.below q0).more q0.size)
  have G0 := hid ((u0.below q0).more q0.size)
  have H1 := hid ((t1.below q0).more q0.size)
  have H2 := hid ((t2.below q0).more q0.size)
  have HE : Hid ((spawnsB d0 l0 e0 r0 d1 l1 d2 l2) = (whoB d1 l1 d2 l2 && risesP [(d0, l0), (d1, l1), (d2, l2), (e0, r0)])) := by show _ = _; unfold spawnsB; simp [risesP]
  clear t0 u0 t1 t2 q0 q1 q2 q3
  go_enter Try.func60, Try.ntmps60
  go_wp2_with (refine wp_list_told 15 15 nil_ rfl (by decide) ?_)
  generalize ((w.alloc (.cells #[.int .i64 d0, .slice A0 n0 c0, .int .i64 e0, .slice E0 m0 k0] 43)).alloc (.cells #[.int .i64 d1, .slice A1 n1 c1] 26)).alloc (.cells #[.int .i64 d2, .slice A2 n2 c2] 26) = wa at *
  have HF : Hid (∀ W, But nil_ wa W → (W.cell? ⟨w.heap.size, 0, none⟩ = some (.int .i64 d0) ∧ W.cell? ⟨w.heap.size, 1, none⟩ = some (.slice A0 n0 c0) ∧ W.cell? ⟨w.heap.size, 2, none⟩ = some (.int .i64 e0) ∧ W.cell? ⟨w.heap.size, 3, none⟩ = some (.slice E0 m0 k0)) ∧ (W.cell? ⟨w.heap.size + 1, 0, none⟩ = some (.int .i64 d1) ∧ W.cell? ⟨w.heap.size + 1, 1, none⟩ = some (.slice A1 n1 c1)) ∧ (W.cell? ⟨w.heap.size + 1 + 1, 0, none⟩ = some (.int .i64 d2) ∧ W.cell? ⟨w.heap.size + 1 + 1, 1, none⟩ = some (.slice A2 n2 c2))) := fun W hW => ⟨(hW.blk HP0.out (fun h => h)).cells4, (hW.blk HP1.out (fun h => h)).cells2, (hW.blk HP2.out (fun h => h)).cells2⟩
  simp only [List.take_succ_cons, List.take_zero, List.drop_succ_cons, List.drop_zero]
  have HPU := hid (fun W (hW : But nil_ wa W) => f115v W d1 A1 n1 c1 l1 d2 A2 n2 c2 l2 (H1.out.since_ hW) (by omega) (H2.out.since_ hW) (by omega))
  generalize whoB d1 l1 d2 l2 = q at *
  repeat (refine told_val (v := ?_) (fun _ => rfl) (fun vs W hW => ?_) ?_; rotate_left; (focus (have hf := HF.out W hW; clear hW; go_simp; exact loose_val)); simp only [Act.put, List.setIfInBounds_toArray, List.set_cons_zero, List.set_cons_succ, List.nil_append, List.cons_append, Nat.reduceAdd, Leaves.at])
  refine told_val (v := .bool q) (fun _ => rfl) (fun vs W hW => ?_) ?_
  · go_simp
    exact loose_call (HPU.out W hW)
  simp only [Act.put, List.setIfInBounds_toArray, List.set_cons_zero, List.set_cons_succ, List.nil_append, List.cons_append, Nat.reduceAdd, Leaves.at]
  repeat (refine told_val (v := ?_) (fun _ => rfl) (fun vs W hW => ?_) ?_; rotate_left; (focus (have hf := HF.out W hW; clear hW; go_simp; exact loose_val)); simp only [Act.put, List.setIfInBounds_toArray, List.set_cons_zero, List.set_cons_succ, List.nil_append, List.cons_append, Nat.reduceAdd, Leaves.at])
  cases q with
  | false =>
    repeat (first | (refine told_off (fun _ => rfl) ?_; simp only [Act.put, List.setIfInBounds_toArray, List.set_cons_zero, List.set_cons_succ, List.nil_append, List.cons_append, Nat.reduceAdd, Leaves.at]) | (refine told_val (v := ?_) (fun _ => rfl) (fun vs W hW => ?_) ?_; rotate_left; (focus (have hf := HF.out W hW; clear hW; go_simp; exact loose_val)); simp only [Act.put, List.setIfInBounds_toArray, List.set_cons_zero, List.set_cons_succ, List.nil_append, List.cons_append, Nat.reduceAdd, Leaves.at]))
    refine told_nil ?_
    intro vs W hW hok hap
    clear hap
    dsimp only
    have HB2 := hid (HB.out.trans (since_below hW HB.out.size))
    clear hok hW
    go_wp2_with fail
    go_ret
    exact ⟨by rw [HE.out]; rfl, HB2.out⟩
  | true =>
    repeat (refine told_val (v := ?_) (fun _ => rfl) (fun vs W hW => ?_) ?_; rotate_left; (focus (have hf := HF.out W hW; clear hW; go_simp; exact loose_val)); simp only [Act.put, List.setIfInBounds_toArray, List.set_cons_zero, List.set_cons_succ, List.nil_append, List.cons_append, Nat.reduceAdd, Leaves.at])
    refine told_rel (LabsR [(d0, l0), (d1, l1), (d2, l2), (e0, r0)]) LabsR.stable (fun _ => rfl) (fun vs W hW hd => ?_) ?_
    · clear hd
      have hf := HF.out W hW
      have hmem := hid (List.forall_mem_cons.2 ⟨H0.out.since_ hW, List.forall_mem_cons.2 ⟨H1.out.since_ hW, List.forall_mem_cons.2 ⟨H2.out.since_ hW, List.forall_mem_cons.2 ⟨G0.out.since_ hW, fun _ h => nomatch h⟩⟩⟩⟩ : ∀ l ∈ [(⟨d0, A0, n0, c0, l0⟩ : LabV), (⟨d1, A1, n1, c1, l1⟩ : LabV), (⟨d2, A2, n2, c2, l2⟩ : LabV), (⟨e0, E0, m0, k0, r0⟩ : LabV)], l.at_ W)
      clear hW
      go_simp
      exact loose_labs _ hmem.out
    simp only [Act.put, List.setIfInBounds_toArray, List.set_cons_zero, List.set_cons_succ, List.nil_append, List.cons_append, Nat.reduceAdd, Leaves.at]
    refine told_val' (v := .bool (risesP [(d0, l0), (d1, l1), (d2, l2), (e0, r0)])) (fun _ => rfl) (fun vs W hW hd => ?_) ?_
    · have hl := hd ⟨11, .data⟩ (by simp) rfl _ rfl (fun h => by cases h)
      have hr := hid (rises_R hl (by simp) (by simp))
      clear hd hl
      go_simp
      exact loose_call hr.out
    simp only [Act.put, List.setIfInBounds_toArray, List.set_cons_zero, List.set_cons_succ, List.nil_append, List.cons_append, Nat.reduceAdd, Leaves.at]
    repeat (refine told_val (v := ?_) (fun _ => rfl) (fun vs W hW => ?_) ?_; rotate_left; (focus (have hf := HF.out W hW; clear hW; go_simp; exact loose_val)); simp only [Act.put, List.setIfInBounds_toArray, List.set_cons_zero, List.set_cons_succ, List.nil_append, List.cons_append, Nat.reduceAdd, Leaves.at])
    refine told_nil ?_
    intro vs W hW hok hap
    clear hap
    dsimp only
    have HB2 := hid (HB.out.trans (since_below hW HB.out.size))
    clear hok hW
    go_wp2_with fail
    go_ret
    exact ⟨by rw [HE.out]; rfl, HB2.out⟩

set_option maxHeartbeats 4000000 in
set_option maxRecDepth 100000 in
theorem f61v (w : World) (d0 : Int) (A0 : Option Addr) (n0 c0 : Nat) (l0 : List (Int × Int)) (d1 : Int) (A1 : Option Addr) (n1 c1 : Nat) (l1 : List (Int × Int)) (d2 : Int) (A2 : Option Addr) (n2 c2 : Nat) (l2 : List (Int × Int)) (d3 : Int) (A3 : Option Addr) (n3 c3 : Nat) (l3 : List (Int × Int)) (t0 : CatsAt w w.heap.size A0 n0 c0 l0) (z0 : n0 ≤ 8796093022207) (t1 : CatsAt w w.heap.size A1 n1 c1 l1) (z1 : n1 ≤ 8796093022207) (t2 : CatsAt w w.heap.size A2 n2 c2 l2) (z2 : n2 ≤ 8796093022207) (t3 : CatsAt w w.heap.size A3 n3 c3 l3) (z3 : n3 ≤ 8796093022207) :
    Calls Try.prog 61 #[.agg #[.int .i64 d0, .slice A0 n0 c0], .agg #[.int .i64 d1, .slice A1 n1 c1], .agg #[.int .i64 d2, .slice A2 n2 c2], .agg #[.int .i64 d3, .slice A3 n3 c3]] w fun e w' => e = .returned (.bool (spawnsB d0 l0 d1 l1 d2 l2 d3 l3)) ∧ Below w.heap.size w w' := by
  have mixed : Try.prog.follows .mixedOrders = true := by kernel_rfl
  obtain ⟨q0, q1, q2, q3, q4, q9⟩ := four_blk w #[.int .i64 d0, .slice A0 n0 c0] #[.int .i64 d1, .slice A1 n1 c1] #[.int .i64 d2, .slice A2 n2 c2] #[.int .i64 d3, .slice A3 n3 c3] 26 26 26 26
  have HB := hid q0
  have HP0 := hid q1
  have HP1 := hid q2
  have HP2 := hid q3
  have HP3 := hid q4
  have H0 := hid ((t0.below q0).more q0.size)
  have H1 := hid ((t1.below q0).more q0.size)
  have H2 := hid ((t2.below q0).more q0.size)
  have H3 := hid ((t3.below q0).more q0.size)
  have HE : Hid ((spawnsB d0 l0 d1 l1 d2 l2 d3 l3) = (((((rightB d2 l2 && rightB d3 l3) && pureD d3 l3) && leqB d0 l0 d2 l2) && leqB d2 l2 d3 l3) && leqB d3 l3 d1 l1)) := by show _ = _; unfold spawnsB whoB; rw [← pure_both]; simp [Bool.and_assoc]
  clear t0 t1 t2 t3 q0 q1 q2 q3 q4 q9
  go_enter Try.func61, Try.ntmps61
  go_wp2_with (refine wp_list_told 26 26 nil_ rfl (by decide) ?_)
  generalize (((w.alloc (.cells #[.int .i64 d0, .slice A0 n0 c0] 26)).alloc (.cells #[.int .i64 d1, .slice A1 n1 c1] 26)).alloc (.cells #[.int .i64 d2, .slice A2 n2 c2] 26)).alloc (.cells #[.int .i64 d3, .slice A3 n3 c3] 26) = wa at *
  have HF : Hid (∀ W, But nil_ wa W → (W.cell? ⟨w.heap.size, 0, none⟩ = some (.int .i64 d0) ∧ W.cell? ⟨w.heap.size, 1, none⟩ = some (.slice A0 n0 c0)) ∧ (W.cell? ⟨w.heap.size + 1, 0, none⟩ = some (.int .i64 d1) ∧ W.cell? ⟨w.heap.size + 1, 1, none⟩ = some (.slice A1 n1 c1)) ∧ (W.cell? ⟨w.heap.size + 1 + 1, 0, none⟩ = some (.int .i64 d2) ∧ W.cell? ⟨w.heap.size + 1 + 1, 1, none⟩ = some (.slice A2 n2 c2)) ∧ (W.cell? ⟨w.heap.size + 1 + 1 + 1, 0, none⟩ = some (.int .i64 d3) ∧ W.cell? ⟨w.heap.size + 1 + 1 + 1, 1, none⟩ = some (.slice A3 n3 c3))) := fun W hW => ⟨(hW.blk HP0.out (fun h => h)).cells2, (hW.blk HP1.out (fun h => h)).cells2, (hW.blk HP2.out (fun h => h)).cells2, (hW.blk HP3.out (fun h => h)).cells2⟩
  simp only [List.take_succ_cons, List.take_zero, List.drop_succ_cons, List.drop_zero]
  have HA := hid (fun W (hW : But nil_ wa W) => right52 W d2 A2 n2 c2 l2 (H2.out.since_ hW))
  have HB_ := hid (fun W (hW : But nil_ wa W) => right52 W d3 A3 n3 c3 l3 (H3.out.since_ hW))
  have HU := hid (fun W (hW : But nil_ wa W) => pure114 W d3 A3 n3 c3 l3 (H3.out.since_ hW))
  have HL := hid (fun W (hW : But nil_ wa W) => leq41_b W d0 d2 A0 A2 n0 c0 n2 c2 l0 l2 (H0.out.since_ hW) (H2.out.since_ hW) (by omega))
  have HM := hid (fun W (hW : But nil_ wa W) => leq41_b W d2 d3 A2 A3 n2 c2 n3 c3 l2 l3 (H2.out.since_ hW) (H3.out.since_ hW) (by omega))
  have HN := hid (fun W (hW : But nil_ wa W) => leq41_b W d3 d1 A3 A1 n3 c3 n1 c1 l3 l1 (H3.out.since_ hW) (H1.out.since_ hW) (by omega))
  generalize rightB d2 l2 = q1 at *
  generalize rightB d3 l3 = q2 at *
  generalize pureD d3 l3 = q3 at *
  generalize leqB d0 l0 d2 l2 = q4 at *
  generalize leqB d2 l2 d3 l3 = q5 at *
  generalize leqB d3 l3 d1 l1 = q6 at *
  repeat (refine told_val (v := ?_) (fun _ => rfl) (fun vs W hW => ?_) ?_; rotate_left; (focus (have hf := HF.out W hW; clear hW; go_simp; exact loose_val)); simp only [Act.put, List.setIfInBounds_toArray, List.set_cons_zero, List.set_cons_succ, List.nil_append, List.cons_append, Nat.reduceAdd, Leaves.at])
  refine told_val (v := .bool q1) (fun _ => rfl) (fun vs W hW => ?_) ?_
  · go_simp
    exact loose_call (HA.out W hW)
  simp only [Act.put, List.setIfInBounds_toArray, List.set_cons_zero, List.set_cons_succ, List.nil_append, List.cons_append, Nat.reduceAdd, Leaves.at]
  repeat (refine told_val (v := ?_) (fun _ => rfl) (fun vs W hW => ?_) ?_; rotate_left; (focus (have hf := HF.out W hW; clear hW; go_simp; exact loose_val)); simp only [Act.put, List.setIfInBounds_toArray, List.set_cons_zero, List.set_cons_succ, List.nil_append, List.cons_append, Nat.reduceAdd, Leaves.at])
  repeat (refine told_maybe (b := q1) (v := ?_) (fun _ => Bool.casesOn q1 rfl rfl) (fun hb vs W hW => ?_) ?_; rotate_left; (focus (have hf := HF.out W hW; clear hW; (try simp only [hb, cond_true, cond_false]); go_simp; exact loose_val)); simp only [Act.put, List.setIfInBounds_toArray, List.set_cons_zero, List.set_cons_succ, List.nil_append, List.cons_append, Nat.reduceAdd, Leaves.at])
  refine told_maybe (b := q1) (v := .bool q2) (fun _ => Bool.casesOn q1 rfl rfl) (fun hb vs W hW => ?_) ?_
  · try simp only [hb, cond_true, cond_false]
    go_simp
    exact loose_call (HB_.out W hW)
  simp only [Act.put, List.setIfInBounds_toArray, List.set_cons_zero, List.set_cons_succ, List.nil_append, List.cons_append, Nat.reduceAdd, Leaves.at]
  refine told_val (v := .bool (q1 && q2)) (fun _ => rfl) (fun vs W hW => ?_) ?_
  · cases q1 <;> cases q2 <;> (go_simp; exact loose_val)
  simp only [Act.put, List.setIfInBounds_toArray, List.set_cons_zero, List.set_cons_succ, List.nil_append, List.cons_append, Nat.reduceAdd, Leaves.at]
  generalize (q1 && q2) = s1 at *
  repeat (refine told_val (v := ?_) (fun _ => rfl) (fun vs W hW => ?_) ?_; rotate_left; (focus (have hf := HF.out W hW; clear hW; go_simp; exact loose_val)); simp only [Act.put, List.setIfInBounds_toArray, List.set_cons_zero, List.set_cons_succ, List.nil_append, List.cons_append, Nat.reduceAdd, Leaves.at])
  repeat (refine told_maybe (b := s1) (v := ?_) (fun _ => Bool.casesOn s1 rfl rfl) (fun hb vs W hW => ?_) ?_; rotate_left; (focus (have hf := HF.out W hW; clear hW; (try simp only [hb, cond_true, cond_false]); go_simp; exact loose_val)); simp only [Act.put, List.setIfInBounds_toArray, List.set_cons_zero, List.set_cons_succ, List.nil_append, List.cons_append, Nat.reduceAdd, Leaves.at])
  refine told_maybe (b := s1) (v := .bool q3) (fun _ => Bool.casesOn s1 rfl rfl) (fun hb vs W hW => ?_) ?_
  · try simp only [hb, cond_true, cond_false]
    go_simp
    exact loose_call (HU.out W hW)
  simp only [Act.put, List.setIfInBounds_toArray, List.set_cons_zero, List.set_cons_succ, List.nil_append, List.cons_append, Nat.reduceAdd, Leaves.at]
  refine told_val (v := .bool (s1 && q3)) (fun _ => rfl) (fun vs W hW => ?_) ?_
  · cases s1 <;> cases q3 <;> (go_simp; exact loose_val)
  simp only [Act.put, List.setIfInBounds_toArray, List.set_cons_zero, List.set_cons_succ, List.nil_append, List.cons_append, Nat.reduceAdd, Leaves.at]
  generalize (s1 && q3) = s2 at *
  repeat (refine told_val (v := ?_) (fun _ => rfl) (fun vs W hW => ?_) ?_; rotate_left; (focus (have hf := HF.out W hW; clear hW; go_simp; exact loose_val)); simp only [Act.put, List.setIfInBounds_toArray, List.set_cons_zero, List.set_cons_succ, List.nil_append, List.cons_append, Nat.reduceAdd, Leaves.at])
  repeat (refine told_maybe (b := s2) (v := ?_) (fun _ => Bool.casesOn s2 rfl rfl) (fun hb vs W hW => ?_) ?_; rotate_left; (focus (have hf := HF.out W hW; clear hW; (try simp only [hb, cond_true, cond_false]); go_simp; exact loose_val)); simp only [Act.put, List.setIfInBounds_toArray, List.set_cons_zero, List.set_cons_succ, List.nil_append, List.cons_append, Nat.reduceAdd, Leaves.at])
  refine told_maybe (b := s2) (v := .bool q4) (fun _ => Bool.casesOn s2 rfl rfl) (fun hb vs W hW => ?_) ?_
  · try simp only [hb, cond_true, cond_false]
    go_simp
    exact loose_call (HL.out W hW)
  simp only [Act.put, List.setIfInBounds_toArray, List.set_cons_zero, List.set_cons_succ, List.nil_append, List.cons_append, Nat.reduceAdd, Leaves.at]
  refine told_val (v := .bool (s2 && q4)) (fun _ => rfl) (fun vs W hW => ?_) ?_
  · cases s2 <;> cases q4 <;> (go_simp; exact loose_val)
  simp only [Act.put, List.setIfInBounds_toArray, List.set_cons_zero, List.set_cons_succ, List.nil_append, List.cons_append, Nat.reduceAdd, Leaves.at]
  generalize (s2 && q4) = s3 at *
  repeat (refine told_val (v := ?_) (fun _ => rfl) (fun vs W hW => ?_) ?_; rotate_left; (focus (have hf := HF.out W hW; clear hW; go_simp; exact loose_val)); simp only [Act.put, List.setIfInBounds_toArray, List.set_cons_zero, List.set_cons_succ, List.nil_append, List.cons_append, Nat.reduceAdd, Leaves.at])
  repeat (refine told_maybe (b := s3) (v := ?_) (fun _ => Bool.casesOn s3 rfl rfl) (fun hb vs W hW => ?_) ?_; rotate_left; (focus (have hf := HF.out W hW; clear hW; (try simp only [hb, cond_true, cond_false]); go_simp; exact loose_val)); simp only [Act.put, List.setIfInBounds_toArray, List.set_cons_zero, List.set_cons_succ, List.nil_append, List.cons_append, Nat.reduceAdd, Leaves.at])
  refine told_maybe (b := s3) (v := .bool q5) (fun _ => Bool.casesOn s3 rfl rfl) (fun hb vs W hW => ?_) ?_
  · try simp only [hb, cond_true, cond_false]
    go_simp
    exact loose_call (HM.out W hW)
  simp only [Act.put, List.setIfInBounds_toArray, List.set_cons_zero, List.set_cons_succ, List.nil_append, List.cons_append, Nat.reduceAdd, Leaves.at]
  refine told_val (v := .bool (s3 && q5)) (fun _ => rfl) (fun vs W hW => ?_) ?_
  · cases s3 <;> cases q5 <;> (go_simp; exact loose_val)
  simp only [Act.put, List.setIfInBounds_toArray, List.set_cons_zero, List.set_cons_succ, List.nil_append, List.cons_append, Nat.reduceAdd, Leaves.at]
  generalize (s3 && q5) = s4 at *
  repeat (refine told_val (v := ?_) (fun _ => rfl) (fun vs W hW => ?_) ?_; rotate_left; (focus (have hf := HF.out W hW; clear hW; go_simp; exact loose_val)); simp only [Act.put, List.setIfInBounds_toArray, List.set_cons_zero, List.set_cons_succ, List.nil_append, List.cons_append, Nat.reduceAdd, Leaves.at])
  repeat (refine told_maybe (b := s4) (v := ?_) (fun _ => Bool.casesOn s4 rfl rfl) (fun hb vs W hW => ?_) ?_; rotate_left; (focus (have hf := HF.out W hW; clear hW; (try simp only [hb, cond_true, cond_false]); go_simp; exact loose_val)); simp only [Act.put, List.setIfInBounds_toArray, List.set_cons_zero, List.set_cons_succ, List.nil_append, List.cons_append, Nat.reduceAdd, Leaves.at])
  refine told_maybe (b := s4) (v := .bool q6) (fun _ => Bool.casesOn s4 rfl rfl) (fun hb vs W hW => ?_) ?_
  · try simp only [hb, cond_true, cond_false]
    go_simp
    exact loose_call (HN.out W hW)
  simp only [Act.put, List.setIfInBounds_toArray, List.set_cons_zero, List.set_cons_succ, List.nil_append, List.cons_append, Nat.reduceAdd, Leaves.at]
  refine told_val (v := .bool (s4 && q6)) (fun _ => rfl) (fun vs W hW => ?_) ?_
  · cases s4 <;> cases q6 <;> (go_simp; exact loose_val)
  simp only [Act.put, List.setIfInBounds_toArray, List.set_cons_zero, List.set_cons_succ, List.nil_append, List.cons_append, Nat.reduceAdd, Leaves.at]
  repeat (refine told_val (v := ?_) (fun _ => rfl) (fun vs W hW => ?_) ?_; rotate_left; (focus (have hf := HF.out W hW; clear hW; go_simp; exact loose_val)); simp only [Act.put, List.setIfInBounds_toArray, List.set_cons_zero, List.set_cons_succ, List.nil_append, List.cons_append, Nat.reduceAdd, Leaves.at])
  refine told_nil ?_
  intro vs W hW hok hap
  clear hap
  dsimp only
  have HB2 := hid (HB.out.trans (since_below hW HB.out.size))
  clear hok hW
  go_wp2_with fail
  go_ret
  exact ⟨by rw [HE.out]; rfl, HB2.out⟩

end Go.Proofs.Ytndohmimcbmhdaa
