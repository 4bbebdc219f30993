/-
  LabelOrders: called with any values of its parameters, the law answers true, and of what lay in memory nothing has turned. No condition.
-/
import Derived.Test.YtndohmimcbmhdaaRows
import Derived.Test.YtndohmimcbmhdaaFrame
import Derived.Test.YtndohmimcbmhdaaHead
import Derived.Test.YtndohmimcbmhdaaOp
import Derived.Test.YtndohmimcbmhdaaHy
set_option linter.unusedVariables false
set_option linter.unusedSimpArgs false
namespace Go.Proofs.Ytndohmimcbmhdaa.lawLabelOrders
open Go.ChangeShapes Go.WideShapes Go.ChangeAt Go.RowKit Go.Sort

theorem own : ownKnob Try.prog.godebug = none := by kernel_rfl
theorem laidOut : laidOutB Try.prog = true := by kernel_rfl


set_option maxHeartbeats 4000000 in
set_option maxRecDepth 100000 in
theorem walk (d0 : Int) (A0 : Option Addr) (n0 : Nat) (c0 : Nat) (l0 : List (Int × Int)) (d1 : Int) (A1 : Option Addr) (n1 : Nat) (c1 : Nat) (l1 : List (Int × Int)) (w : World) (t0 : CatsAt w w.heap.size A0 n0 c0 l0) (t1 : CatsAt w w.heap.size A1 n1 c1 l1) (z0 : n0 ≤ 8796093022207) (z1 : n1 ≤ 8796093022207) :
    Calls Try.prog 5 #[.agg #[.int .i64 d0, .slice A0 n0 c0], .agg #[.int .i64 d1, .slice A1 n1 c1]] w fun e w' => e = .returned (.bool true) ∧ Below w.heap.size w w' := by
  have mixed : Try.prog.follows .mixedOrders = true := by kernel_rfl
  obtain ⟨q1, q2, q3⟩ := two_blk w #[.int .i64 d0, .slice A0 n0 c0] #[.int .i64 d1, .slice A1 n1 c1] 26 26
  have HB := hid q1
  have HP1 := hid q2
  have HP2 := hid q3
  have H0 := hid ((t0.below q1).more q1.size)
  have H1 := hid ((t1.below q1).more q1.size)
  clear t0 t1 q1 q2 q3
  go_enter Try.func5, Try.ntmps5
  go_wp2_with fail
  generalize (w.alloc (.cells #[.int .i64 d0, .slice A0 n0 c0] 26)).alloc (.cells #[.int .i64 d1, .slice A1 n1 c1] 26) = wa at *
  have HF : Hid (∀ W, But nil_ wa W → (W.cell? ⟨w.heap.size, 0, none⟩ = some (.int .i64 d0) ∧ W.cell? ⟨w.heap.size, 1, none⟩ = some (.slice A0 n0 c0)) ∧ (W.cell? ⟨w.heap.size + 1, 0, none⟩ = some (.int .i64 d1) ∧ W.cell? ⟨w.heap.size + 1, 1, none⟩ = some (.slice A1 n1 c1))) := by
    intro W hW
    exact ⟨(hW.blk HP1.out (fun h => h)).cells2, (hW.blk HP2.out (fun h => h)).cells2⟩
  refine wp_region_told 6 nil_ mixed (by kernel_rfl) ?_
  simp only [List.take_succ_cons, List.take_zero, List.drop_succ_cons, List.drop_zero]
  repeat (refine told_val (v := ?_) (fun _ => rfl) (fun vs W hW => ?_) ?_; rotate_left; (focus (have hf := HF.out W hW; clear hW; go_simp; exact loose_val)); simp only [Act.put, List.setIfInBounds_toArray, List.set_cons_zero, List.set_cons_succ, List.nil_append, List.cons_append, Nat.reduceAdd, Leaves.at])
  refine told_rel (LabR d0 l0) LabR.stable (fun _ => rfl) (fun vs W hW hd => ?_) ?_
  · clear hd
    go_simp
    exact loose_callR ((copy39 W d0 A0 n0 c0 l0 (H0.out.since_ hW) (by omega)).mono fun _ _ h => h.lab)
  simp only [Act.put, List.setIfInBounds_toArray, List.set_cons_zero, List.set_cons_succ, List.nil_append, List.cons_append, Nat.reduceAdd, Leaves.at]
  repeat (refine told_val (v := ?_) (fun _ => rfl) (fun vs W hW => ?_) ?_; rotate_left; (focus (have hf := HF.out W hW; clear hW; go_simp; exact loose_val)); simp only [Act.put, List.setIfInBounds_toArray, List.set_cons_zero, List.set_cons_succ, List.nil_append, List.cons_append, Nat.reduceAdd, Leaves.at])
  refine told_rel (LabR d1 l1) LabR.stable (fun _ => rfl) (fun vs W hW hd => ?_) ?_
  · clear hd
    go_simp
    exact loose_callR ((copy39 W d1 A1 n1 c1 l1 (H1.out.since_ hW) (by omega)).mono fun _ _ h => h.lab)
  simp only [Act.put, List.setIfInBounds_toArray, List.set_cons_zero, List.set_cons_succ, List.nil_append, List.cons_append, Nat.reduceAdd, Leaves.at]
  refine told_fresh (NewPtr wa.heap.size 26 #[.int .i64 0, .slice none 0 0]) (NewPtr.fresh (fun _ hk => by first | exact hk.elim | (have := hk; omega))) (fun _ => rfl) (fun vs W hW hd => ?_) ?_
  · go_simp
    exact loose_freshPtr hW.size
  simp only [Act.put, List.setIfInBounds_toArray, List.set_cons_zero, List.set_cons_succ, List.nil_append, List.cons_append, Nat.reduceAdd, Leaves.at]
  refine told_fresh (NewPtr wa.heap.size 26 #[.int .i64 0, .slice none 0 0]) (NewPtr.fresh (fun _ hk => by first | exact hk.elim | (have := hk; omega))) (fun _ => rfl) (fun vs W hW hd => ?_) ?_
  · go_simp
    exact loose_freshPtr hW.size
  simp only [Act.put, List.setIfInBounds_toArray, List.set_cons_zero, List.set_cons_succ, List.nil_append, List.cons_append, Nat.reduceAdd, Leaves.at]
  refine told_nil ?_
  intro vs W hW hok hap
  dsimp only
  obtain ⟨X, nx, cx, e1, hX⟩ := hok 1 _ rfl rfl
  obtain ⟨Y, ny, cy, e3, hY⟩ := hok 3 _ rfl rfl
  obtain ⟨⟨p, e4, hp, kp⟩, -⟩ := hok 4 _ rfl rfl
  obtain ⟨⟨q, e5, hq, kq⟩, -⟩ := hok 5 _ rfl rfl
  have hne := hap 4 5 _ _ rfl rfl (by decide) rfl rfl
  rw [e1, e3, e4, e5]
  rw [e4, e5] at hne
  have hpq : p ≠ q := fun e => hne (by rw [e])
  have HW := hid hW
  have HX := hid hX
  have HY := hid hY
  have KP := hid kp
  have KQ := hid kq
  obtain ⟨⟨z0, z1⟩, z2, z3⟩ := label_zero kp
  have hqp : q ≠ p := fun e => hpq e.symm
  obtain ⟨⟨y0, y1⟩, y2, y3⟩ := label_zero kq
  clear hok hap hW hX hY kp kq e1 e3 e4 e5 hne
  go_wp2_with fail
  obtain ⟨Wp, hwp, K1, K2, BW⟩ := put2 KP.out KQ.out hpq (.int .i64 d0) (.slice X nx cx) (.int .i64 d1) (.slice Y ny cy)
  rw [hwp]
  have hs := HW.out.size
  have hs2 := BW.size
  have hD : ∀ g, (g = p ∨ g = q) → Bare W g := fun g hg => by
    rcases hg with rfl | rfl
    · exact bare26 KP.out
    · exact bare26 KQ.out
  have HX2 := hid ((HX.out.keep (Nat.le_refl _) BW hD).more hs2)
  have HY2 := hid ((HY.out.keep (Nat.le_refl _) BW hD).more hs2)
  have HBp : Hid (Below wa.heap.size wa Wp) := BW.done (since_below HW.out (Nat.le_refl _)) (fun k hk => by rcases hk with rfl | rfl <;> omega) hs
  have H02 := hid ((H0.out.below HBp.out).more HBp.out.size)
  have H12 := hid ((H1.out.below HBp.out).more HBp.out.size)
  have HP12 := hid (HP1.out.below HBp.out HP1.out.lt)
  have HP22 := hid (HP2.out.below HBp.out HP2.out.lt)
  have HB2 := hid (HB.out.trans (HBp.out.mono HB.out.size))
  have K1 := hid K1
  have K2 := hid K2
  clear hwp BW hD hs hs2 z0 z1 z2 z3 y0 y1 y2 y3
  have HF2 : Hid (∀ W, But nil_ Wp W → ((W.cell? ⟨w.heap.size, 0, none⟩ = some (.int .i64 d0) ∧ W.cell? ⟨w.heap.size, 1, none⟩ = some (.slice A0 n0 c0)) ∧ (W.cell? ⟨w.heap.size + 1, 0, none⟩ = some (.int .i64 d1) ∧ W.cell? ⟨w.heap.size + 1, 1, none⟩ = some (.slice A1 n1 c1))) ∧ ((W.cell? ⟨p, 0, none⟩ = some (.int .i64 d0) ∧ W.cell? ⟨p, 1, none⟩ = some (.slice X nx cx)) ∧ (W.cell? ⟨q, 0, none⟩ = some (.int .i64 d1) ∧ W.cell? ⟨q, 1, none⟩ = some (.slice Y ny cy)))) := by
    intro W hW
    exact ⟨⟨(hW.blk HP12.out (fun h => h)).cells2, (hW.blk HP22.out (fun h => h)).cells2⟩, (hW.blk K1.out (fun h => h)).cells2, (hW.blk K2.out (fun h => h)).cells2⟩
  have HX1 : Hid (exactB d0 l0 d0 l0 = true) := by show _ = _; unfold exactB; simp
  have HY1 : Hid (exactB d1 l1 d1 l1 = true) := by show _ = _; unfold exactB; simp
  have HD1 := hid (leqD_eq d0 l0 d1 l1)
  have HD2 := hid (leqD_eq d1 l1 d0 l0)
  have HS : Hid (sameB d0 l0 d1 l1 = (leqB d0 l0 d1 l1 && leqB d1 l1 d0 l0)) := rfl
  have HL40 : Hid (∀ W, But nil_ Wp W → Calls Try.prog 40 #[.agg #[.int .i64 d0, .slice X nx cx], .agg #[.int .i64 d1, .slice Y ny cy]] W fun e w' => e = .returned (.bool (leqB d0 l0 d1 l1)) ∧ Below W.heap.size W w') :=
    fun W hW => leq40 W d0 d1 X Y nx cx ny cy l0 l1 (HX2.out.since_ hW) (HY2.out.since_ hW)
  have HL42 : Hid (∀ W, But nil_ Wp W → Calls Try.prog 42 #[.agg #[.int .i64 d0, .slice X nx cx], .agg #[.int .i64 d1, .slice Y ny cy]] W fun e w' => e = .returned (.bool (leqB d0 l0 d1 l1 && leqB d1 l1 d0 l0)) ∧ Below W.heap.size W w') := by
    intro W hW
    rw [← HS.out]
    exact same42 W d0 d1 X Y nx cx ny cy l0 l1 (HX2.out.since_ hW) (HY2.out.since_ hW)
  have HL41 : Hid (∀ W, But nil_ Wp W → Calls Try.prog 41 #[.agg #[.int .i64 d0, .slice A0 n0 c0], .agg #[.int .i64 d1, .slice A1 n1 c1]] W fun e w' => e = .returned (.bool (leqB d0 l0 d1 l1)) ∧ Below W.heap.size W w') := by
    intro W hW
    rw [← HD1.out]
    exact leq41 W d0 d1 A0 A1 n0 c0 n1 c1 l0 l1 (H02.out.since_ hW) (H12.out.since_ hW) (by omega)
  have HL41' : Hid (∀ W, But nil_ Wp W → Calls Try.prog 41 #[.agg #[.int .i64 d1, .slice A1 n1 c1], .agg #[.int .i64 d0, .slice A0 n0 c0]] W fun e w' => e = .returned (.bool (leqB d1 l1 d0 l0)) ∧ Below W.heap.size W w') := by
    intro W hW
    rw [← HD2.out]
    exact leq41 W d1 d0 A1 A0 n1 c1 n0 c0 l1 l0 (H12.out.since_ hW) (H02.out.since_ hW) (by omega)
  have HE1 : Hid (∀ W, But nil_ Wp W → Calls Try.prog 36 #[.agg #[.int .i64 d0, .slice X nx cx], .agg #[.int .i64 d0, .slice A0 n0 c0]] W fun e w' => e = .returned (.bool true) ∧ Below W.heap.size W w') := by
    intro W hW
    rw [← HX1.out]
    exact exact36 W d0 d0 X A0 nx cx n0 c0 l0 l0 (HX2.out.since_ hW) (H02.out.since_ hW)
  have HE2 : Hid (∀ W, But nil_ Wp W → Calls Try.prog 36 #[.agg #[.int .i64 d1, .slice Y ny cy], .agg #[.int .i64 d1, .slice A1 n1 c1]] W fun e w' => e = .returned (.bool true) ∧ Below W.heap.size W w') := by
    intro W hW
    rw [← HY1.out]
    exact exact36 W d1 d1 Y A1 ny cy n1 c1 l1 l1 (HY2.out.since_ hW) (H12.out.since_ hW)
  clear HS HD1 HD2 HX1 HY1
  generalize leqB d0 l0 d1 l1 = r1 at *
  generalize leqB d1 l1 d0 l0 = r2 at *
  cases r1 with
  | false =>
    refine wp_region_told 35 nil_ mixed (by kernel_rfl) ?_
    simp only [List.take_succ_cons, List.take_zero, List.drop_succ_cons, List.drop_zero]
    refine told_val (v := .bool true) (fun _ => rfl) (fun vs W hW => ?_) ?_
    · go_simp
      exact loose_call (alive33 W)
    simp only [Act.put, List.setIfInBounds_toArray, List.set_cons_zero, List.set_cons_succ, List.nil_append, List.cons_append, Nat.reduceAdd, Leaves.at]
    repeat (refine told_val (v := ?_) (fun _ => rfl) (fun vs W hW => ?_) ?_; rotate_left; (focus (have hf := HF2.out W hW; clear hW; go_simp; exact loose_val)); simp only [Act.put, List.setIfInBounds_toArray, List.set_cons_zero, List.set_cons_succ, List.nil_append, List.cons_append, Nat.reduceAdd, Leaves.at])
    refine told_val (v := .bool false) (fun _ => rfl) (fun vs W hW => ?_) ?_
    · go_simp
      exact loose_call (HL40.out W hW)
    simp only [Act.put, List.setIfInBounds_toArray, List.set_cons_zero, List.set_cons_succ, List.nil_append, List.cons_append, Nat.reduceAdd, Leaves.at]
    repeat (refine told_val (v := ?_) (fun _ => rfl) (fun vs W hW => ?_) ?_; rotate_left; (focus (have hf := HF2.out W hW; clear hW; go_simp; exact loose_val)); simp only [Act.put, List.setIfInBounds_toArray, List.set_cons_zero, List.set_cons_succ, List.nil_append, List.cons_append, Nat.reduceAdd, Leaves.at])
    refine told_val (v := .bool false) (fun _ => rfl) (fun vs W hW => ?_) ?_
    · go_simp
      exact loose_call (HL41.out W hW)
    simp only [Act.put, List.setIfInBounds_toArray, List.set_cons_zero, List.set_cons_succ, List.nil_append, List.cons_append, Nat.reduceAdd, Leaves.at]
    repeat (refine told_val (v := ?_) (fun _ => rfl) (fun vs W hW => ?_) ?_; rotate_left; (focus (have hf := HF2.out W hW; clear hW; go_simp; exact loose_val)); simp only [Act.put, List.setIfInBounds_toArray, List.set_cons_zero, List.set_cons_succ, List.nil_append, List.cons_append, Nat.reduceAdd, Leaves.at])
    refine told_val (v := .bool (false && r2)) (fun _ => rfl) (fun vs W hW => ?_) ?_
    · go_simp
      exact loose_call (HL42.out W hW)
    simp only [Act.put, List.setIfInBounds_toArray, List.set_cons_zero, List.set_cons_succ, List.nil_append, List.cons_append, Nat.reduceAdd, Leaves.at]
    repeat (refine told_val (v := ?_) (fun _ => rfl) (fun vs W hW => ?_) ?_; rotate_left; (focus (have hf := HF2.out W hW; clear hW; go_simp; exact loose_val)); simp only [Act.put, List.setIfInBounds_toArray, List.set_cons_zero, List.set_cons_succ, List.nil_append, List.cons_append, Nat.reduceAdd, Leaves.at])
    refine told_val (v := .bool false) (fun _ => rfl) (fun vs W hW => ?_) ?_
    · go_simp
      exact loose_call (HL41.out W hW)
    simp only [Act.put, List.setIfInBounds_toArray, List.set_cons_zero, List.set_cons_succ, List.nil_append, List.cons_append, Nat.reduceAdd, Leaves.at]
    repeat (first | (refine told_off (fun _ => rfl) ?_; simp only [Act.put, List.setIfInBounds_toArray, List.set_cons_zero, List.set_cons_succ, List.nil_append, List.cons_append, Nat.reduceAdd, Leaves.at]) | (refine told_val (v := ?_) (fun _ => rfl) (fun vs W hW => ?_) ?_; rotate_left; (focus (have hf := HF2.out W hW; clear hW; go_simp; exact loose_val)); simp only [Act.put, List.setIfInBounds_toArray, List.set_cons_zero, List.set_cons_succ, List.nil_append, List.cons_append, Nat.reduceAdd, Leaves.at]))
    refine told_val (v := .bool true) (fun _ => rfl) (fun vs W hW => ?_) ?_
    · go_simp
      exact loose_call (HE1.out W hW)
    simp only [Act.put, List.setIfInBounds_toArray, List.set_cons_zero, List.set_cons_succ, List.nil_append, List.cons_append, Nat.reduceAdd, Leaves.at]
    repeat (refine told_val (v := ?_) (fun _ => rfl) (fun vs W hW => ?_) ?_; rotate_left; (focus (have hf := HF2.out W hW; clear hW; go_simp; exact loose_val)); simp only [Act.put, List.setIfInBounds_toArray, List.set_cons_zero, List.set_cons_succ, List.nil_append, List.cons_append, Nat.reduceAdd, Leaves.at])
    refine told_val (v := .bool true) (fun _ => rfl) (fun vs W hW => ?_) ?_
    · go_simp
      exact loose_call (HE2.out W hW)
    simp only [Act.put, List.setIfInBounds_toArray, List.set_cons_zero, List.set_cons_succ, List.nil_append, List.cons_append, Nat.reduceAdd, Leaves.at]
    repeat (refine told_val (v := ?_) (fun _ => rfl) (fun vs W hW => ?_) ?_; rotate_left; (focus (have hf := HF2.out W hW; clear hW; go_simp; exact loose_val)); simp only [Act.put, List.setIfInBounds_toArray, List.set_cons_zero, List.set_cons_succ, List.nil_append, List.cons_append, Nat.reduceAdd, Leaves.at])
    refine told_nil ?_
    intro vs W2 hW2 hok hap
    clear hap
    dsimp only
    have HB3 := hid (HB2.out.trans (since_below hW2 HB2.out.size))
    clear hok hW2
    go_wp2_with fail
    go_ret
    exact ⟨by simp, HB3.out⟩
  | true =>
    refine wp_region_told 35 nil_ mixed (by kernel_rfl) ?_
    simp only [List.take_succ_cons, List.take_zero, List.drop_succ_cons, List.drop_zero]
    refine told_val (v := .bool true) (fun _ => rfl) (fun vs W hW => ?_) ?_
    · go_simp
      exact loose_call (alive33 W)
    simp only [Act.put, List.setIfInBounds_toArray, List.set_cons_zero, List.set_cons_succ, List.nil_append, List.cons_append, Nat.reduceAdd, Leaves.at]
    repeat (refine told_val (v := ?_) (fun _ => rfl) (fun vs W hW => ?_) ?_; rotate_left; (focus (have hf := HF2.out W hW; clear hW; go_simp; exact loose_val)); simp only [Act.put, List.setIfInBounds_toArray, List.set_cons_zero, List.set_cons_succ, List.nil_append, List.cons_append, Nat.reduceAdd, Leaves.at])
    refine told_val (v := .bool true) (fun _ => rfl) (fun vs W hW => ?_) ?_
    · go_simp
      exact loose_call (HL40.out W hW)
    simp only [Act.put, List.setIfInBounds_toArray, List.set_cons_zero, List.set_cons_succ, List.nil_append, List.cons_append, Nat.reduceAdd, Leaves.at]
    repeat (refine told_val (v := ?_) (fun _ => rfl) (fun vs W hW => ?_) ?_; rotate_left; (focus (have hf := HF2.out W hW; clear hW; go_simp; exact loose_val)); simp only [Act.put, List.setIfInBounds_toArray, List.set_cons_zero, List.set_cons_succ, List.nil_append, List.cons_append, Nat.reduceAdd, Leaves.at])
    refine told_val (v := .bool true) (fun _ => rfl) (fun vs W hW => ?_) ?_
    · go_simp
      exact loose_call (HL41.out W hW)
    simp only [Act.put, List.setIfInBounds_toArray, List.set_cons_zero, List.set_cons_succ, List.nil_append, List.cons_append, Nat.reduceAdd, Leaves.at]
    repeat (refine told_val (v := ?_) (fun _ => rfl) (fun vs W hW => ?_) ?_; rotate_left; (focus (have hf := HF2.out W hW; clear hW; go_simp; exact loose_val)); simp only [Act.put, List.setIfInBounds_toArray, List.set_cons_zero, List.set_cons_succ, List.nil_append, List.cons_append, Nat.reduceAdd, Leaves.at])
    refine told_val (v := .bool (true && r2)) (fun _ => rfl) (fun vs W hW => ?_) ?_
    · go_simp
      exact loose_call (HL42.out W hW)
    simp only [Act.put, List.setIfInBounds_toArray, List.set_cons_zero, List.set_cons_succ, List.nil_append, List.cons_append, Nat.reduceAdd, Leaves.at]
    repeat (refine told_val (v := ?_) (fun _ => rfl) (fun vs W hW => ?_) ?_; rotate_left; (focus (have hf := HF2.out W hW; clear hW; go_simp; exact loose_val)); simp only [Act.put, List.setIfInBounds_toArray, List.set_cons_zero, List.set_cons_succ, List.nil_append, List.cons_append, Nat.reduceAdd, Leaves.at])
    refine told_val (v := .bool true) (fun _ => rfl) (fun vs W hW => ?_) ?_
    · go_simp
      exact loose_call (HL41.out W hW)
    simp only [Act.put, List.setIfInBounds_toArray, List.set_cons_zero, List.set_cons_succ, List.nil_append, List.cons_append, Nat.reduceAdd, Leaves.at]
    repeat (first | (refine told_off (fun _ => rfl) ?_; simp only [Act.put, List.setIfInBounds_toArray, List.set_cons_zero, List.set_cons_succ, List.nil_append, List.cons_append, Nat.reduceAdd, Leaves.at]) | (refine told_val (v := ?_) (fun _ => rfl) (fun vs W hW => ?_) ?_; rotate_left; (focus (have hf := HF2.out W hW; clear hW; go_simp; exact loose_val)); simp only [Act.put, List.setIfInBounds_toArray, List.set_cons_zero, List.set_cons_succ, List.nil_append, List.cons_append, Nat.reduceAdd, Leaves.at]))
    refine told_val (v := .bool r2) (fun _ => rfl) (fun vs W hW => ?_) ?_
    · go_simp
      exact loose_call (HL41'.out W hW)
    simp only [Act.put, List.setIfInBounds_toArray, List.set_cons_zero, List.set_cons_succ, List.nil_append, List.cons_append, Nat.reduceAdd, Leaves.at]
    repeat (refine told_val (v := ?_) (fun _ => rfl) (fun vs W hW => ?_) ?_; rotate_left; (focus (have hf := HF2.out W hW; clear hW; go_simp; exact loose_val)); simp only [Act.put, List.setIfInBounds_toArray, List.set_cons_zero, List.set_cons_succ, List.nil_append, List.cons_append, Nat.reduceAdd, Leaves.at])
    refine told_val (v := .bool true) (fun _ => rfl) (fun vs W hW => ?_) ?_
    · go_simp
      exact loose_call (HE1.out W hW)
    simp only [Act.put, List.setIfInBounds_toArray, List.set_cons_zero, List.set_cons_succ, List.nil_append, List.cons_append, Nat.reduceAdd, Leaves.at]
    repeat (refine told_val (v := ?_) (fun _ => rfl) (fun vs W hW => ?_) ?_; rotate_left; (focus (have hf := HF2.out W hW; clear hW; go_simp; exact loose_val)); simp only [Act.put, List.setIfInBounds_toArray, List.set_cons_zero, List.set_cons_succ, List.nil_append, List.cons_append, Nat.reduceAdd, Leaves.at])
    refine told_val (v := .bool true) (fun _ => rfl) (fun vs W hW => ?_) ?_
    · go_simp
      exact loose_call (HE2.out W hW)
    simp only [Act.put, List.setIfInBounds_toArray, List.set_cons_zero, List.set_cons_succ, List.nil_append, List.cons_append, Nat.reduceAdd, Leaves.at]
    repeat (refine told_val (v := ?_) (fun _ => rfl) (fun vs W hW => ?_) ?_; rotate_left; (focus (have hf := HF2.out W hW; clear hW; go_simp; exact loose_val)); simp only [Act.put, List.setIfInBounds_toArray, List.set_cons_zero, List.set_cons_succ, List.nil_append, List.cons_append, Nat.reduceAdd, Leaves.at])
    refine told_nil ?_
    intro vs W2 hW2 hok hap
    clear hap
    dsimp only
    have HB3 := hid (HB2.out.trans (since_below hW2 HB2.out.size))
    clear hok hW2
    go_wp2_with fail
    go_ret
    exact ⟨by simp, HB3.out⟩

theorem fits {H : Type} : ∀ ds : List (DataW H), ds.length = Try.f5.params.toList.length → Rows.labelOrdersSpec.fn H ds = { results := [.lit (.bool true)], args := ds } := by
  intro ds h
  rw [Try.params5] at h
  match ds, h with
  | [e0, e1], _ => rfl

set_option maxRecDepth 100000 in
theorem lifted (os : Os) (started : os.Started) (H : Type) (enc : TypeId × Value → H) :
    ReturnsInHanded {} Try.checked os 5 .any (Rows.labelOrdersSpec.pre6 enc Try.prog Try.f5 Rows.labelOrdersRow.domain false) (Rows.labelOrdersSpec.post enc Try.prog Try.f5 false true false false) := by
  refine returnsInHanded_of_change_sized (C := Try.checked) own started (by kernel_rfl) Try.func5
    (ChangeSpec.witness6 (enc := enc) (C := Try.checked) false ⟨#[], #[.agg #[.int .i64 0, .slice none 0 0], .agg #[.int .i64 0, .slice none 0 0]], []⟩ 8 (by kernel_rfl) (by kernel_rfl) (by kernel_rfl) (by kernel_rfl)) ?_
  intro W base args ds gs before hval0 hW hcnd hsz0 _
  have hval : ∀ (j : Nat) t v, Try.f5.params[j]? = some t → args[j]? = some v → Value.okWide Try.prog W .any base t v := hval0
  have hsz : (DataW.weightsEach Try.prog (Try.f5.params.toList ++ []) (ds ++ gs)).all (· ≤ reachBytes) = true := hsz0
  rw [Try.params5] at hsz
  have hpost : ∀ W', Below W.heap.size W W' → Rows.labelOrdersSpec.post enc Try.prog Try.f5 false true false false W args (.bool true) W' := fun W' hb =>
    law_post rfl rfl Try.underlying4 laidOut (by kernel_rfl) fits hW hb
  obtain ⟨p, q, hA0, hV, rfl, hfz, hnd⟩ := hW
  have hA : DataW.TrodAll enc Try.prog W 0 (fun _ => true) true Try.f5.params.toList args.toList ds p := hA0
  rw [Try.params5] at hA hval
  obtain ⟨rfl, rfl⟩ := trodVars_none hV
  obtain ⟨v0, vs0, dd0, ds0, p0, q0, hargs, rfl, rfl, h0, r0⟩ := trodAll_cons hA
  obtain ⟨v1, vs1, dd1, ds1, p1, q1, rfl, rfl, rfl, h1, r1⟩ := trodAll_cons r0
  obtain ⟨rfl, rfl, rfl⟩ := trodAll_nil r1
  obtain rfl : args = #[v0, v1] := by cases args; simp_all
  have fit0 : Fits 26 dd0 := Fits.of_all hsz (j := 0) rfl rfl
  have fit1 : Fits 26 dd1 := Fits.of_all hsz (j := 1) rfl rfl
  obtain ⟨d0, A0, n0, c0, l0, rfl, T0, F0, B0⟩ := open_label (hval 0 26 v0 rfl rfl) h0
  obtain ⟨d1, A1, n1, c1, l1, rfl, T1, F1, B1⟩ := open_label (hval 1 26 v1 rfl rfl) h1
  refine (walk d0 A0 n0 c0 l0 d1 A1 n1 c1 l1 W T0 T1 (F0 fit0) (F1 fit1)).mono fun e W' ⟨he, hg⟩ => ?_
  subst he
  exact ⟨_, rfl, hpost W' hg⟩

theorem closed : joinedFacts Try.prog 5 Try.f5 Rows.labelOrdersSpec Rows.labelOrdersRow = true := by
  unfold joinedFacts
  rw [enters, finals, made]
  kernel_rfl

theorem over : Rows.labelOrdersRow.holds Try.pinned (OpenSpec.ofChange Rows.labelOrdersSpec) :=
  OpenClaim.holds_of_wide 5 Try.f5 rfl rfl rfl rfl rfl rfl rfl ⟨rfl, rfl, rfl, rfl, rfl⟩ rfl rfl rfl rfl rfl (by kernel_rfl) Try.func5 closed
    (of_decide_eq_true (by kernel_rfl)) (by unfold Func.isWrapper; rw [if_neg (by decide +kernel)]; exact ⟨rfl, rfl⟩)
    (fun os started H enc _ => lifted os started H enc)

theorem proved : Rows.LabelOrdersSaid := over
end Go.Proofs.Ytndohmimcbmhdaa.lawLabelOrders
