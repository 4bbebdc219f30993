/-
  LabelMerges: called with any values of its parameters, the law answers true, and of what lay in memory nothing has turned. Condition: what comes in is of bulk at most 1048576 (the given second form).
-/
import Derived.Test.YtndohmimcbmhdaaRows
import Derived.Test.YtndohmimcbmhdaaFrame
import Derived.Test.YtndohmimcbmhdaaHead
import Derived.Test.YtndohmimcbmhdaaOp
import Derived.Test.YtndohmimcbmhdaaHy
import Derived.JoinedCond
set_option linter.unusedVariables false
set_option linter.unusedSimpArgs false
namespace Go.Proofs.Ytndohmimcbmhdaa.lawLabelMerges
open Go.ChangeShapes Go.WideShapes Go.ChangeAt Go.RowKit Go.Sort

theorem own : ownKnob Try.prog.godebug = none := by kernel_rfl
theorem laidOut : laidOutB Try.prog = true := by kernel_rfl


set_option maxHeartbeats 4000000 in
set_option maxRecDepth 100000 in
theorem walk (d0 : Int) (A0 : Option Addr) (n0 : Nat) (c0 : Nat) (l0 : List (Int × Int)) (d1 : Int) (A1 : Option Addr) (n1 : Nat) (c1 : Nat) (l1 : List (Int × Int)) (a2 : Int) (b2 : Int) (w : World) (t0 : CatsAt w w.heap.size A0 n0 c0 l0) (t1 : CatsAt w w.heap.size A1 n1 c1 l1) (x2 : 0 ≤ a2 ∧ a2 ≤ 18446744073709551615) (y2 : -9223372036854775808 ≤ b2 ∧ b2 ≤ 9223372036854775807) (z0 : n0 ≤ 1048576) (z1 : n1 ≤ 1048576) :
    Calls Try.prog 7 #[.agg #[.int .i64 d0, .slice A0 n0 c0], .agg #[.int .i64 d1, .slice A1 n1 c1], .agg #[.int .u64 a2, .int .i64 b2]] w fun e w' => e = .returned (.bool true) ∧ Below w.heap.size w w' := by
  have mixed : Try.prog.follows .mixedOrders = true := by kernel_rfl
  obtain ⟨q1, q2, q3, q4⟩ := three_blk w #[.int .i64 d0, .slice A0 n0 c0] #[.int .i64 d1, .slice A1 n1 c1] #[.int .u64 a2, .int .i64 b2] 26 26 32
  have HB := hid q1
  have HP1 := hid q2
  have HP2 := hid q3
  have HP3 := hid q4
  have H0 := hid ((t0.below q1).more q1.size)
  have H1 := hid ((t1.below q1).more q1.size)
  clear t0 t1 q1 q2 q3 q4
  go_enter Try.func7, Try.ntmps7
  go_wp2_with fail
  generalize ((w.alloc (.cells #[.int .i64 d0, .slice A0 n0 c0] 26)).alloc (.cells #[.int .i64 d1, .slice A1 n1 c1] 26)).alloc (.cells #[.int .u64 a2, .int .i64 b2] 32) = wa at *
  have HF : Hid (∀ W, But nil_ wa W → (W.cell? ⟨w.heap.size, 0, none⟩ = some (.int .i64 d0) ∧ W.cell? ⟨w.heap.size, 1, none⟩ = some (.slice A0 n0 c0)) ∧ (W.cell? ⟨w.heap.size + 1, 0, none⟩ = some (.int .i64 d1) ∧ W.cell? ⟨w.heap.size + 1, 1, none⟩ = some (.slice A1 n1 c1))) := by
    intro W hW
    exact ⟨(hW.blk HP1.out (fun h => h)).cells2, (hW.blk HP2.out (fun h => h)).cells2⟩
  refine wp_region_told 6 nil_ mixed (by kernel_rfl) ?_
  simp only [List.take_succ_cons, List.take_zero, List.drop_succ_cons, List.drop_zero]
  repeat (refine told_val (v := ?_) (fun _ => rfl) (fun vs W hW => ?_) ?_; rotate_left; (focus (have hf := HF.out W hW; clear hW; go_simp; exact loose_val)); simp only [Act.put, List.setIfInBounds_toArray, List.set_cons_zero, List.set_cons_succ, List.nil_append, List.cons_append, Nat.reduceAdd, Leaves.at])
  refine told_rel (LabR d0 l0) LabR.stable (fun _ => rfl) (fun vs W hW hd => ?_) ?_
  · clear hd
    go_simp
    exact loose_callR ((copy39 W d0 A0 n0 c0 l0 (H0.out.since_ hW) (by omega)).mono fun _ _ h => h.lab)
  simp only [Act.put, List.setIfInBounds_toArray, List.set_cons_zero, List.set_cons_succ, List.nil_append, List.cons_append, Nat.reduceAdd, Leaves.at]
  repeat (refine told_val (v := ?_) (fun _ => rfl) (fun vs W hW => ?_) ?_; rotate_left; (focus (have hf := HF.out W hW; clear hW; go_simp; exact loose_val)); simp only [Act.put, List.setIfInBounds_toArray, List.set_cons_zero, List.set_cons_succ, List.nil_append, List.cons_append, Nat.reduceAdd, Leaves.at])
  refine told_rel (LabR d1 l1) LabR.stable (fun _ => rfl) (fun vs W hW hd => ?_) ?_
  · clear hd
    go_simp
    exact loose_callR ((copy39 W d1 A1 n1 c1 l1 (H1.out.since_ hW) (by omega)).mono fun _ _ h => h.lab)
  simp only [Act.put, List.setIfInBounds_toArray, List.set_cons_zero, List.set_cons_succ, List.nil_append, List.cons_append, Nat.reduceAdd, Leaves.at]
  refine told_fresh (NewPtr wa.heap.size 26 #[.int .i64 0, .slice none 0 0]) (NewPtr.fresh (fun _ hk => by first | exact hk.elim | (have := hk; omega))) (fun _ => rfl) (fun vs W hW hd => ?_) ?_
  · go_simp
    exact loose_freshPtr hW.size
  simp only [Act.put, List.setIfInBounds_toArray, List.set_cons_zero, List.set_cons_succ, List.nil_append, List.cons_append, Nat.reduceAdd, Leaves.at]
  refine told_fresh (NewPtr wa.heap.size 26 #[.int .i64 0, .slice none 0 0]) (NewPtr.fresh (fun _ hk => by first | exact hk.elim | (have := hk; omega))) (fun _ => rfl) (fun vs W hW hd => ?_) ?_
  · go_simp
    exact loose_freshPtr hW.size
  simp only [Act.put, List.setIfInBounds_toArray, List.set_cons_zero, List.set_cons_succ, List.nil_append, List.cons_append, Nat.reduceAdd, Leaves.at]
  refine told_nil ?_
  intro vs W hW hok hap
  dsimp only
  obtain ⟨X, nx, cx, e1, hX⟩ := hok 1 _ rfl rfl
  obtain ⟨Y, ny, cy, e3, hY⟩ := hok 3 _ rfl rfl
  obtain ⟨⟨p, e4, hp, kp⟩, -⟩ := hok 4 _ rfl rfl
  obtain ⟨⟨q, e5, hq, kq⟩, -⟩ := hok 5 _ rfl rfl
  have hne := hap 4 5 _ _ rfl rfl (by decide) rfl rfl
  rw [e1, e3, e4, e5]
  rw [e4, e5] at hne
  have hpq : p ≠ q := fun e => hne (by rw [e])
  have HW := hid hW
  have HX := hid hX
  have HY := hid hY
  have KP := hid kp
  have KQ := hid kq
  obtain ⟨⟨z0, z1⟩, z2, z3⟩ := label_zero kp
  have hqp : q ≠ p := fun e => hpq e.symm
  obtain ⟨⟨y0, y1⟩, y2, y3⟩ := label_zero kq
  clear hok hap hW hX hY kp kq e1 e3 e4 e5 hne
  go_wp2_with fail
  obtain ⟨Wp, hwp, K1, K2, BW⟩ := put2 KP.out KQ.out hpq (.int .i64 d0) (.slice X nx cx) (.int .i64 d1) (.slice Y ny cy)
  rw [hwp]
  have hs := HW.out.size
  have hs2 := BW.size
  have hD : ∀ g, (g = p ∨ g = q) → Bare W g := fun g hg => by
    rcases hg with rfl | rfl
    · exact bare26 KP.out
    · exact bare26 KQ.out
  have HX2 := hid ((HX.out.keep (Nat.le_refl _) BW hD).more hs2)
  have HY2 := hid ((HY.out.keep (Nat.le_refl _) BW hD).more hs2)
  have HBp : Hid (Below wa.heap.size wa Wp) := BW.done (since_below HW.out (Nat.le_refl _)) (fun k hk => by rcases hk with rfl | rfl <;> omega) hs
  have H02 := hid ((H0.out.below HBp.out).more HBp.out.size)
  have H12 := hid ((H1.out.below HBp.out).more HBp.out.size)
  have HP12 := hid (HP1.out.below HBp.out HP1.out.lt)
  have HP22 := hid (HP2.out.below HBp.out HP2.out.lt)
  have HP32 := hid (HP3.out.below HBp.out HP3.out.lt)
  have HB2 := hid (HB.out.trans (HBp.out.mono HB.out.size))
  have K1 := hid K1
  have K2 := hid K2
  have hnx : nx ≤ 1048576 := by rw [← HX.out.len, H0.out.len]; omega
  have hny : ny ≤ 1048576 := by rw [← HY.out.len, H1.out.len]; omega
  clear hwp BW hD hs hs2 z0 z1 z2 z3 y0 y1 y2 y3
  have HF2 : Hid (∀ W, But nil_ Wp W → (((W.cell? ⟨w.heap.size, 0, none⟩ = some (.int .i64 d0) ∧ W.cell? ⟨w.heap.size, 1, none⟩ = some (.slice A0 n0 c0)) ∧ (W.cell? ⟨w.heap.size + 1, 0, none⟩ = some (.int .i64 d1) ∧ W.cell? ⟨w.heap.size + 1, 1, none⟩ = some (.slice A1 n1 c1))) ∧ ((W.cell? ⟨p, 0, none⟩ = some (.int .i64 d0) ∧ W.cell? ⟨p, 1, none⟩ = some (.slice X nx cx)) ∧ (W.cell? ⟨q, 0, none⟩ = some (.int .i64 d1) ∧ W.cell? ⟨q, 1, none⟩ = some (.slice Y ny cy)))) ∧ (W.cell? ⟨w.heap.size + 1 + 1, 0, none⟩ = some (.int .u64 a2) ∧ W.cell? ⟨w.heap.size + 1 + 1, 1, none⟩ = some (.int .i64 b2))) := by
    intro W hW
    exact ⟨⟨⟨(hW.blk HP12.out (fun h => h)).cells2, (hW.blk HP22.out (fun h => h)).cells2⟩, (hW.blk K1.out (fun h => h)).cells2, (hW.blk K2.out (fun h => h)).cells2⟩, (hW.blk HP32.out (fun h => h)).cells2⟩
  refine wp_region_told 22 nil_ mixed (by kernel_rfl) ?_
  simp only [List.take_succ_cons, List.take_zero, List.drop_succ_cons, List.drop_zero]
  refine told_val (v := .bool true) (fun _ => rfl) (fun vs W hW => ?_) ?_
  · go_simp
    exact loose_call (alive33 W)
  simp only [Act.put, List.setIfInBounds_toArray, List.set_cons_zero, List.set_cons_succ, List.nil_append, List.cons_append, Nat.reduceAdd, Leaves.at]
  repeat (refine told_val (v := ?_) (fun _ => rfl) (fun vs W hW => ?_) ?_; rotate_left; (focus (have hf := HF2.out W hW; clear hW; go_simp; exact loose_val)); simp only [Act.put, List.setIfInBounds_toArray, List.set_cons_zero, List.set_cons_succ, List.nil_append, List.cons_append, Nat.reduceAdd, Leaves.at])
  refine told_rel (LabR (max d0 d1) (joinL d0 l0 d1 l1)) LabR.stable (fun _ => rfl) (fun vs W hW hd => ?_) ?_
  · clear hd
    go_simp
    exact loose_callR (join43_l W d0 d1 X Y nx cx ny cy l0 l1 (HX2.out.since_ hW) (HY2.out.since_ hW) (by omega))
  simp only [Act.put, List.setIfInBounds_toArray, List.set_cons_zero, List.set_cons_succ, List.nil_append, List.cons_append, Nat.reduceAdd, Leaves.at]
  repeat (refine told_val (v := ?_) (fun _ => rfl) (fun vs W hW => ?_) ?_; rotate_left; (focus (have hf := HF2.out W hW; clear hW; go_simp; exact loose_val)); simp only [Act.put, List.setIfInBounds_toArray, List.set_cons_zero, List.set_cons_succ, List.nil_append, List.cons_append, Nat.reduceAdd, Leaves.at])
  refine told_rel (LabR (max d0 d1) (joinL d0 l0 d1 l1)) LabR.stable (fun _ => rfl) (fun vs W hW hd => ?_) ?_
  · clear hd
    go_simp
    exact loose_callR (merge45_join W d0 d1 A0 A1 n0 c0 n1 c1 l0 l1 (H02.out.since_ hW) (H12.out.since_ hW) (by omega))
  simp only [Act.put, List.setIfInBounds_toArray, List.set_cons_zero, List.set_cons_succ, List.nil_append, List.cons_append, Nat.reduceAdd, Leaves.at]
  refine told_val' (v := .bool true) (fun _ => rfl) (fun vs W hW hd => ?_) ?_
  · obtain ⟨P5, m5, k5, e5, hT5⟩ := hd ⟨5, .data⟩ (by simp) rfl _ rfl (fun h => by cases h)
    obtain ⟨P8, m8, k8, e8, hT8⟩ := hd ⟨8, .data⟩ (by simp) rfl _ rfl (fun h => by cases h)
    clear hd
    go_simp
    exact loose_call (exact36_true W _ P5 P8 m5 k5 m8 k8 _ hT5 hT8)
  simp only [Act.put, List.setIfInBounds_toArray, List.set_cons_zero, List.set_cons_succ, List.nil_append, List.cons_append, Nat.reduceAdd, Leaves.at]
  repeat (refine told_val (v := ?_) (fun _ => rfl) (fun vs W hW => ?_) ?_; rotate_left; (focus (have hf := HF2.out W hW; clear hW; go_simp; exact loose_val)); simp only [Act.put, List.setIfInBounds_toArray, List.set_cons_zero, List.set_cons_succ, List.nil_append, List.cons_append, Nat.reduceAdd, Leaves.at])
  refine told_rel (LabR (min d0 d1) (meetL d0 l0 d1 l1)) LabR.stable (fun _ => rfl) (fun vs W hW hd => ?_) ?_
  · clear hd
    go_simp
    exact loose_callR (meet44_l W d0 d1 X Y nx cx ny cy l0 l1 (HX2.out.since_ hW) (HY2.out.since_ hW) (by omega))
  simp only [Act.put, List.setIfInBounds_toArray, List.set_cons_zero, List.set_cons_succ, List.nil_append, List.cons_append, Nat.reduceAdd, Leaves.at]
  repeat (refine told_val (v := ?_) (fun _ => rfl) (fun vs W hW => ?_) ?_; rotate_left; (focus (have hf := HF2.out W hW; clear hW; go_simp; exact loose_val)); simp only [Act.put, List.setIfInBounds_toArray, List.set_cons_zero, List.set_cons_succ, List.nil_append, List.cons_append, Nat.reduceAdd, Leaves.at])
  refine told_rel (LabR (min d0 d1) (meetL d0 l0 d1 l1)) LabR.stable (fun _ => rfl) (fun vs W hW hd => ?_) ?_
  · clear hd
    go_simp
    exact loose_callR (merge45_meet W d0 d1 A0 A1 n0 c0 n1 c1 l0 l1 (H02.out.since_ hW) (H12.out.since_ hW) (by omega))
  simp only [Act.put, List.setIfInBounds_toArray, List.set_cons_zero, List.set_cons_succ, List.nil_append, List.cons_append, Nat.reduceAdd, Leaves.at]
  refine told_val' (v := .bool true) (fun _ => rfl) (fun vs W hW hd => ?_) ?_
  · obtain ⟨P15, m15, k15, e15, hT15⟩ := hd ⟨15, .data⟩ (by simp) rfl _ rfl (fun h => by cases h)
    obtain ⟨P18, m18, k18, e18, hT18⟩ := hd ⟨18, .data⟩ (by simp) rfl _ rfl (fun h => by cases h)
    clear hd
    go_simp
    exact loose_call (exact36_true W _ P15 P18 m15 k15 m18 k18 _ hT15 hT18)
  simp only [Act.put, List.setIfInBounds_toArray, List.set_cons_zero, List.set_cons_succ, List.nil_append, List.cons_append, Nat.reduceAdd, Leaves.at]
  repeat (refine told_val (v := ?_) (fun _ => rfl) (fun vs W hW => ?_) ?_; rotate_left; (focus (have hf := HF2.out W hW; clear hW; go_simp; exact loose_val)); simp only [Act.put, List.setIfInBounds_toArray, List.set_cons_zero, List.set_cons_succ, List.nil_append, List.cons_append, Nat.reduceAdd, Leaves.at])
  refine told_nil ?_
  intro vs W2 hW2 hok hap
  clear hap
  dsimp only
  have HB3 := hid (HB2.out.trans (since_below hW2 HB2.out.size))
  have HV2 := hid hW2
  have HX3 := hid (HX2.out.since_ hW2)
  have H03 := hid (H02.out.since_ hW2)
  have HF3 : Hid (∀ W, But nil_ W2 W → (((W.cell? ⟨w.heap.size, 0, none⟩ = some (.int .i64 d0) ∧ W.cell? ⟨w.heap.size, 1, none⟩ = some (.slice A0 n0 c0)) ∧ (W.cell? ⟨w.heap.size + 1, 0, none⟩ = some (.int .i64 d1) ∧ W.cell? ⟨w.heap.size + 1, 1, none⟩ = some (.slice A1 n1 c1))) ∧ ((W.cell? ⟨p, 0, none⟩ = some (.int .i64 d0) ∧ W.cell? ⟨p, 1, none⟩ = some (.slice X nx cx)) ∧ (W.cell? ⟨q, 0, none⟩ = some (.int .i64 d1) ∧ W.cell? ⟨q, 1, none⟩ = some (.slice Y ny cy)))) ∧ (W.cell? ⟨w.heap.size + 1 + 1, 0, none⟩ = some (.int .u64 a2) ∧ W.cell? ⟨w.heap.size + 1 + 1, 1, none⟩ = some (.int .i64 b2))) := fun W hW => HF2.out W (HV2.out.trans hW)
  clear hok hW2
  go_wp2_with fail
  refine wp_region_told 33 nil_ mixed (by kernel_rfl) ?_
  simp only [List.take_succ_cons, List.take_zero, List.drop_succ_cons, List.drop_zero]
  repeat (refine told_val (v := ?_) (fun _ => rfl) (fun vs W hW => ?_) ?_; rotate_left; (focus (have hf := HF3.out W hW; clear hW; go_simp; exact loose_val)); simp only [Act.put, List.setIfInBounds_toArray, List.set_cons_zero, List.set_cons_succ, List.nil_append, List.cons_append, Nat.reduceAdd, Leaves.at])
  refine told_rel (LabR (turnF 0 5 d0 d0) (raiseL d0 l0)) LabR.stable (fun _ => rfl) (fun vs W hW hd => ?_) ?_
  · clear hd
    go_simp
    exact loose_callR (raise46_l W d0 X nx cx l0 (HX3.out.since_ hW) (by omega))
  simp only [Act.put, List.setIfInBounds_toArray, List.set_cons_zero, List.set_cons_succ, List.nil_append, List.cons_append, Nat.reduceAdd, Leaves.at]
  repeat (refine told_val (v := ?_) (fun _ => rfl) (fun vs W hW => ?_) ?_; rotate_left; (focus (have hf := HF3.out W hW; clear hW; go_simp; exact loose_val)); simp only [Act.put, List.setIfInBounds_toArray, List.set_cons_zero, List.set_cons_succ, List.nil_append, List.cons_append, Nat.reduceAdd, Leaves.at])
  refine told_rel (LabR (turnF 0 5 d0 d0) (raiseL d0 l0)) LabR.stable (fun _ => rfl) (fun vs W hW hd => ?_) ?_
  · clear hd
    go_simp
    exact loose_callR (turn47_raise W d0 A0 n0 c0 l0 (H03.out.since_ hW) (by omega))
  simp only [Act.put, List.setIfInBounds_toArray, List.set_cons_zero, List.set_cons_succ, List.nil_append, List.cons_append, Nat.reduceAdd, Leaves.at]
  refine told_val' (v := .bool true) (fun _ => rfl) (fun vs W hW hd => ?_) ?_
  · obtain ⟨P1, m1, k1, e1, hT1⟩ := hd ⟨1, .data⟩ (by simp) rfl _ rfl (fun h => by cases h)
    obtain ⟨P3, m3, k3, e3, hT3⟩ := hd ⟨3, .data⟩ (by simp) rfl _ rfl (fun h => by cases h)
    clear hd
    go_simp
    exact loose_call (exact36_true W _ P1 P3 m1 k1 m3 k3 _ hT1 hT3)
  simp only [Act.put, List.setIfInBounds_toArray, List.set_cons_zero, List.set_cons_succ, List.nil_append, List.cons_append, Nat.reduceAdd, Leaves.at]
  repeat (refine told_val (v := ?_) (fun _ => rfl) (fun vs W hW => ?_) ?_; rotate_left; (focus (have hf := HF3.out W hW; clear hW; go_simp; exact loose_val)); simp only [Act.put, List.setIfInBounds_toArray, List.set_cons_zero, List.set_cons_succ, List.nil_append, List.cons_append, Nat.reduceAdd, Leaves.at])
  refine told_rel (LabR (turnF 5 0 d0 d0) (lowerL d0 l0)) LabR.stable (fun _ => rfl) (fun vs W hW hd => ?_) ?_
  · clear hd
    go_simp
    exact loose_callR (lower48_l W d0 X nx cx l0 (HX3.out.since_ hW) (by omega))
  simp only [Act.put, List.setIfInBounds_toArray, List.set_cons_zero, List.set_cons_succ, List.nil_append, List.cons_append, Nat.reduceAdd, Leaves.at]
  repeat (refine told_val (v := ?_) (fun _ => rfl) (fun vs W hW => ?_) ?_; rotate_left; (focus (have hf := HF3.out W hW; clear hW; go_simp; exact loose_val)); simp only [Act.put, List.setIfInBounds_toArray, List.set_cons_zero, List.set_cons_succ, List.nil_append, List.cons_append, Nat.reduceAdd, Leaves.at])
  refine told_rel (LabR (turnF 5 0 d0 d0) (lowerL d0 l0)) LabR.stable (fun _ => rfl) (fun vs W hW hd => ?_) ?_
  · clear hd
    go_simp
    exact loose_callR (turn47_lower W d0 A0 n0 c0 l0 (H03.out.since_ hW) (by omega))
  simp only [Act.put, List.setIfInBounds_toArray, List.set_cons_zero, List.set_cons_succ, List.nil_append, List.cons_append, Nat.reduceAdd, Leaves.at]
  refine told_val' (v := .bool true) (fun _ => rfl) (fun vs W hW hd => ?_) ?_
  · obtain ⟨P7, m7, k7, e7, hT7⟩ := hd ⟨7, .data⟩ (by simp) rfl _ rfl (fun h => by cases h)
    obtain ⟨P9, m9, k9, e9, hT9⟩ := hd ⟨9, .data⟩ (by simp) rfl _ rfl (fun h => by cases h)
    clear hd
    go_simp
    exact loose_call (exact36_true W _ P7 P9 m7 k7 m9 k9 _ hT7 hT9)
  simp only [Act.put, List.setIfInBounds_toArray, List.set_cons_zero, List.set_cons_succ, List.nil_append, List.cons_append, Nat.reduceAdd, Leaves.at]
  repeat (refine told_val (v := ?_) (fun _ => rfl) (fun vs W hW => ?_) ?_; rotate_left; (focus (have hf := HF3.out W hW; clear hW; go_simp; exact loose_val)); simp only [Act.put, List.setIfInBounds_toArray, List.set_cons_zero, List.set_cons_succ, List.nil_append, List.cons_append, Nat.reduceAdd, Leaves.at])
  refine told_rel (LabR d0 (formL d0 ((a2, b2) :: l0))) LabR.stable (fun _ => rfl) (fun vs W hW hd => ?_) ?_
  · clear hd
    go_simp
    exact loose_callR (set49_l W d0 X nx cx l0 a2 b2 (HX3.out.since_ hW) (by omega))
  simp only [Act.put, List.setIfInBounds_toArray, List.set_cons_zero, List.set_cons_succ, List.nil_append, List.cons_append, Nat.reduceAdd, Leaves.at]
  repeat (refine told_val (v := ?_) (fun _ => rfl) (fun vs W hW => ?_) ?_; rotate_left; (focus (have hf := HF3.out W hW; clear hW; go_simp; exact loose_val)); simp only [Act.put, List.setIfInBounds_toArray, List.set_cons_zero, List.set_cons_succ, List.nil_append, List.cons_append, Nat.reduceAdd, Leaves.at])
  refine told_rel (LabR d0 (formL d0 ((a2, b2) :: l0))) LabR.stable (fun _ => rfl) (fun vs W hW hd => ?_) ?_
  · clear hd
    go_simp
    exact loose_callR (set50_l W d0 A0 n0 c0 l0 a2 b2 (H03.out.since_ hW) (by omega))
  simp only [Act.put, List.setIfInBounds_toArray, List.set_cons_zero, List.set_cons_succ, List.nil_append, List.cons_append, Nat.reduceAdd, Leaves.at]
  refine told_val' (v := .bool true) (fun _ => rfl) (fun vs W hW hd => ?_) ?_
  · obtain ⟨P18, m18, k18, e18, hT18⟩ := hd ⟨18, .data⟩ (by simp) rfl _ rfl (fun h => by cases h)
    obtain ⟨P24, m24, k24, e24, hT24⟩ := hd ⟨24, .data⟩ (by simp) rfl _ rfl (fun h => by cases h)
    clear hd
    go_simp
    exact loose_call (exact36_true W _ P18 P24 m18 k18 m24 k24 _ hT18 hT24)
  simp only [Act.put, List.setIfInBounds_toArray, List.set_cons_zero, List.set_cons_succ, List.nil_append, List.cons_append, Nat.reduceAdd, Leaves.at]
  repeat (refine told_val (v := ?_) (fun _ => rfl) (fun vs W hW => ?_) ?_; rotate_left; (focus (have hf := HF3.out W hW; clear hW; go_simp; exact loose_val)); simp only [Act.put, List.setIfInBounds_toArray, List.set_cons_zero, List.set_cons_succ, List.nil_append, List.cons_append, Nat.reduceAdd, Leaves.at])
  refine told_val (v := .bool true) (fun _ => rfl) (fun vs W hW => ?_) ?_
  · go_simp
    exact loose_call (exact36_true W d0 X A0 nx cx n0 c0 l0 (HX3.out.since_ hW) (H03.out.since_ hW))
  simp only [Act.put, List.setIfInBounds_toArray, List.set_cons_zero, List.set_cons_succ, List.nil_append, List.cons_append, Nat.reduceAdd, Leaves.at]
  repeat (refine told_val (v := ?_) (fun _ => rfl) (fun vs W hW => ?_) ?_; rotate_left; (focus (have hf := HF3.out W hW; clear hW; go_simp; exact loose_val)); simp only [Act.put, List.setIfInBounds_toArray, List.set_cons_zero, List.set_cons_succ, List.nil_append, List.cons_append, Nat.reduceAdd, Leaves.at])
  refine told_nil ?_
  intro vs W3 hW3 hok hap
  clear hap
  dsimp only
  have HB4 := hid (HB3.out.trans (since_below hW3 HB3.out.size))
  clear hok hW3
  go_wp2_with fail
  go_ret
  exact ⟨rfl, HB4.out⟩

theorem fits {H : Type} : ∀ ds : List (DataW H), ds.length = Try.f7.params.toList.length → Rows.labelMergesSpec.fn H ds = { results := [.lit (.bool true)], args := ds } := by
  intro ds h
  rw [Try.params7] at h
  match ds, h with
  | [e0, e1, e2], _ => rfl

set_option maxRecDepth 100000 in
theorem contract (H : Type) (enc : TypeId × Value → H) (W : World) (base : Nat) (args : Array Value) (ds gs : List (DataW H)) (before : List MemPlace)
    (hval0 : ∀ (j : Nat) t v, Try.f7.params[j]? = some t → args[j]? = some v → Value.okWide Try.prog W .any base t v)
    (hW : DataW.Whole enc Try.prog Try.f7.params.toList Rows.labelMergesSpec.vars false W args.toList ds gs before) (hk : Rows.uptoSmall H (ds ++ gs) = true) :
    Calls Try.prog 7 args W fun e W' => ∃ v, e = .returned v ∧ Rows.labelMergesSpec.post enc Try.prog Try.f7 false true false false W args v W' := by
  have hval : ∀ (j : Nat) t v, Try.f7.params[j]? = some t → args[j]? = some v → Value.okWide Try.prog W .any base t v := hval0
  have hpost : ∀ W', Below W.heap.size W W' → Rows.labelMergesSpec.post enc Try.prog Try.f7 false true false false W args (.bool true) W' := fun W' hb =>
    law_post rfl rfl Try.underlying4 laidOut (by kernel_rfl) fits hW hb
  obtain ⟨p, q, hA0, hV, rfl, hfz, hnd⟩ := hW
  have hA : DataW.TrodAll enc Try.prog W 0 (fun _ => true) true Try.f7.params.toList args.toList ds p := hA0
  rw [Try.params7] at hA hval
  obtain ⟨rfl, rfl⟩ := trodVars_none hV
  obtain ⟨v0, vs0, dd0, ds0, p0, q0, hargs, rfl, rfl, h0, r0⟩ := trodAll_cons hA
  obtain ⟨v1, vs1, dd1, ds1, p1, q1, rfl, rfl, rfl, h1, r1⟩ := trodAll_cons r0
  obtain ⟨v2, vs2, dd2, ds2, p2, q2, rfl, rfl, rfl, h2, r2⟩ := trodAll_cons r1
  obtain ⟨rfl, rfl, rfl⟩ := trodAll_nil r2
  obtain rfl : args = #[v0, v1, v2] := by cases args; simp_all
  obtain ⟨d0, A0, n0, c0, l0, rfl, T0, F0, B0⟩ := open_label (hval 0 26 v0 rfl rfl) h0
  obtain ⟨d1, A1, n1, c1, l1, rfl, T1, F1, B1⟩ := open_label (hval 1 26 v1 rfl rfl) h1
  obtain ⟨a2, b2, rfl, X2, Y2⟩ := open_cat (hval 2 32 v2 rfl rfl) h2
  have hbk := small_of hk
  simp only [List.append_nil, List.cons_append, List.nil_append, Rows.uptoBulkAll] at hbk
  refine (walk d0 A0 n0 c0 l0 d1 A1 n1 c1 l1 a2 b2 W T0 T1 X2 Y2 (by omega) (by omega)).mono fun e W' ⟨he, hg⟩ => ?_
  subst he
  exact ⟨_, rfl, hpost W' hg⟩

set_option maxRecDepth 100000 in
theorem lifted (os : Os) (started : os.Started) (H : Type) (enc : TypeId × Value → H) (F : Stop.Interp) :
    ReturnsInHanded {} Try.checked os 7 .any ((Rows.OpenSpec.upto Rows.labelMergesSpec).pre6 enc Try.prog Try.f7 Rows.labelMergesUptoRow.domain false) (((Rows.OpenSpec.upto Rows.labelMergesSpec).at F).post enc Try.prog Try.f7 false true false false) := by
  refine returnsInHanded_of_cond (C := Try.checked) (s := Rows.OpenSpec.upto Rows.labelMergesSpec) (k := Rows.uptoSmall) rfl own started (by kernel_rfl) Try.func7
    (OpenSpec.witness (enc := enc) (C := Try.checked) (s := Rows.OpenSpec.upto Rows.labelMergesSpec) (k := Rows.uptoSmall) rfl false ⟨#[], #[.agg #[.int .i64 0, .slice none 0 0], .agg #[.int .i64 0, .slice none 0 0], .agg #[.int .u64 0, .int .i64 0]], []⟩ 8 (by kernel_rfl) (by kernel_rfl) (by kernel_rfl)
      (x := ([.agg [.lit (.int .i64 0), .nil], .agg [.lit (.int .i64 0), .nil], .agg [.lit (.int .u64 0), .lit (.int .i64 0)]], [], [])) (by kernel_rfl) rfl (by kernel_rfl)) ?_
  intro W base args ds gs before hval hW _ hk _
  exact contract H enc W base args ds gs before hval hW hk

theorem closed : joinedFacts Try.prog 7 Try.f7 (Rows.OpenSpec.upto Rows.labelMergesSpec).bare Rows.labelMergesUptoRow = true := by
  unfold joinedFacts
  rw [enters, finals, made]
  kernel_rfl

theorem proved : Rows.LabelMergesUptoSaid :=
  OpenClaim.holds_of_cond 7 Try.f7 rfl rfl rfl rfl rfl rfl rfl ⟨rfl, rfl, rfl, rfl, rfl⟩ rfl rfl rfl rfl rfl (by kernel_rfl) Try.func7 closed
    (of_decide_eq_true (by kernel_rfl)) (by unfold Func.isWrapper; rw [if_neg (by decide +kernel)]; exact ⟨rfl, rfl⟩)
    (fun os started H enc _ F => lifted os started H enc F)
end Go.Proofs.Ytndohmimcbmhdaa.lawLabelMerges
