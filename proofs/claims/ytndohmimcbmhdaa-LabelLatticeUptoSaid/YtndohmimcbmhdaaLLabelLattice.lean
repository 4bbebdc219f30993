/-
  LabelLattice: called with any values of its parameters, the law answers true, and of what lay in memory nothing has turned. Condition: what comes in is of bulk at most 1048576 (the given second form).
-/
import Derived.Test.YtndohmimcbmhdaaRows
import Derived.Test.YtndohmimcbmhdaaFrame
import Derived.Test.YtndohmimcbmhdaaHead
import Derived.Test.YtndohmimcbmhdaaOp
import Derived.Test.YtndohmimcbmhdaaHy
import Derived.JoinedCond
set_option linter.unusedVariables false
set_option linter.unusedSimpArgs false
namespace Go.Proofs.Ytndohmimcbmhdaa.lawLabelLattice
open Go.ChangeShapes Go.WideShapes Go.ChangeAt Go.RowKit Go.Sort

theorem own : ownKnob Try.prog.godebug = none := by kernel_rfl
theorem laidOut : laidOutB Try.prog = true := by kernel_rfl


set_option maxHeartbeats 4000000 in
set_option maxRecDepth 100000 in
theorem walk (d0 : Int) (A0 : Option Addr) (n0 : Nat) (c0 : Nat) (l0 : List (Int × Int)) (d1 : Int) (A1 : Option Addr) (n1 : Nat) (c1 : Nat) (l1 : List (Int × Int)) (d2 : Int) (A2 : Option Addr) (n2 : Nat) (c2 : Nat) (l2 : List (Int × Int)) (w : World) (t0 : CatsAt w w.heap.size A0 n0 c0 l0) (t1 : CatsAt w w.heap.size A1 n1 c1 l1) (t2 : CatsAt w w.heap.size A2 n2 c2 l2) (z0 : n0 ≤ 1048576) (z1 : n1 ≤ 1048576) (z2 : n2 ≤ 1048576) :
    Calls Try.prog 6 #[.agg #[.int .i64 d0, .slice A0 n0 c0], .agg #[.int .i64 d1, .slice A1 n1 c1], .agg #[.int .i64 d2, .slice A2 n2 c2]] w fun e w' => e = .returned (.bool true) ∧ Below w.heap.size w w' := by
  have mixed : Try.prog.follows .mixedOrders = true := by kernel_rfl
  obtain ⟨q1, q2, q3, q4⟩ := three_blk w #[.int .i64 d0, .slice A0 n0 c0] #[.int .i64 d1, .slice A1 n1 c1] #[.int .i64 d2, .slice A2 n2 c2] 26 26 26
  have HB := hid q1
  have HP1 := hid q2
  have HP2 := hid q3
  have HP3 := hid q4
  have H0 := hid ((t0.below q1).more q1.size)
  have H1 := hid ((t1.below q1).more q1.size)
  have H2 := hid ((t2.below q1).more q1.size)
  clear t0 t1 t2 q1 q2 q3 q4
  go_enter Try.func6, Try.ntmps6
  go_wp2_with fail
  generalize ((w.alloc (.cells #[.int .i64 d0, .slice A0 n0 c0] 26)).alloc (.cells #[.int .i64 d1, .slice A1 n1 c1] 26)).alloc (.cells #[.int .i64 d2, .slice A2 n2 c2] 26) = wa at *
  refine (alive33 wa).mono ?_
  rintro e w1 ⟨rfl, hb1⟩
  have HB1 := hid (HB.out.trans (hb1.mono HB.out.size))
  have HP11 := hid (HP1.out.below hb1 HP1.out.lt)
  have HP21 := hid (HP2.out.below hb1 HP2.out.lt)
  have HP31 := hid (HP3.out.below hb1 HP3.out.lt)
  have H01 := hid ((H0.out.below hb1).more hb1.size)
  have H11 := hid ((H1.out.below hb1).more hb1.size)
  have H21 := hid ((H2.out.below hb1).more hb1.size)
  clear hb1
  have HF : Hid (∀ W, But nil_ w1 W → (W.cell? ⟨w.heap.size, 0, none⟩ = some (.int .i64 d0) ∧ W.cell? ⟨w.heap.size, 1, none⟩ = some (.slice A0 n0 c0)) ∧ (W.cell? ⟨w.heap.size + 1, 0, none⟩ = some (.int .i64 d1) ∧ W.cell? ⟨w.heap.size + 1, 1, none⟩ = some (.slice A1 n1 c1))) := by
    intro W hW
    exact ⟨(hW.blk HP11.out (fun h => h)).cells2, (hW.blk HP21.out (fun h => h)).cells2⟩
  go_wp2_with fail
  refine wp_region_told 8 nil_ mixed (by kernel_rfl) ?_
  simp only [List.take_succ_cons, List.take_zero, List.drop_succ_cons, List.drop_zero]
  repeat (refine told_val (v := ?_) (fun _ => rfl) (fun vs W hW => ?_) ?_; rotate_left; (focus (have hf := HF.out W hW; clear hW; go_simp; exact loose_val)); simp only [Act.put, List.setIfInBounds_toArray, List.set_cons_zero, List.set_cons_succ, List.nil_append, List.cons_append, Nat.reduceAdd, Leaves.at])
  refine told_rel (LabR (max d0 d1) (joinL d0 l0 d1 l1)) LabR.stable (fun _ => rfl) (fun vs W hW hd => ?_) ?_
  · clear hd
    go_simp
    exact loose_callR (join43_l W d0 d1 A0 A1 n0 c0 n1 c1 l0 l1 (H01.out.since_ hW) (H11.out.since_ hW) (by omega))
  simp only [Act.put, List.setIfInBounds_toArray, List.set_cons_zero, List.set_cons_succ, List.nil_append, List.cons_append, Nat.reduceAdd, Leaves.at]
  repeat (refine told_val (v := ?_) (fun _ => rfl) (fun vs W hW => ?_) ?_; rotate_left; (focus (have hf := HF.out W hW; clear hW; go_simp; exact loose_val)); simp only [Act.put, List.setIfInBounds_toArray, List.set_cons_zero, List.set_cons_succ, List.nil_append, List.cons_append, Nat.reduceAdd, Leaves.at])
  refine told_rel (LabR (min d0 d1) (meetL d0 l0 d1 l1)) LabR.stable (fun _ => rfl) (fun vs W hW hd => ?_) ?_
  · clear hd
    go_simp
    exact loose_callR (meet44_l W d0 d1 A0 A1 n0 c0 n1 c1 l0 l1 (H01.out.since_ hW) (H11.out.since_ hW) (by omega))
  simp only [Act.put, List.setIfInBounds_toArray, List.set_cons_zero, List.set_cons_succ, List.nil_append, List.cons_append, Nat.reduceAdd, Leaves.at]
  refine told_fresh (NewPtr w1.heap.size 26 #[.int .i64 0, .slice none 0 0]) (NewPtr.fresh (fun _ hk => by first | exact hk.elim | (have := hk; omega))) (fun _ => rfl) (fun vs W hW hd => ?_) ?_
  · go_simp
    exact loose_freshPtr hW.size
  simp only [Act.put, List.setIfInBounds_toArray, List.set_cons_zero, List.set_cons_succ, List.nil_append, List.cons_append, Nat.reduceAdd, Leaves.at]
  refine told_fresh (NewPtr w1.heap.size 26 #[.int .i64 0, .slice none 0 0]) (NewPtr.fresh (fun _ hk => by first | exact hk.elim | (have := hk; omega))) (fun _ => rfl) (fun vs W hW hd => ?_) ?_
  · go_simp
    exact loose_freshPtr hW.size
  simp only [Act.put, List.setIfInBounds_toArray, List.set_cons_zero, List.set_cons_succ, List.nil_append, List.cons_append, Nat.reduceAdd, Leaves.at]
  refine told_nil ?_
  intro vs W hW hok hap
  dsimp only
  obtain ⟨X, nx, cx, e1, hX⟩ := hok 2 _ rfl rfl
  obtain ⟨Y, ny, cy, e3, hY⟩ := hok 5 _ rfl rfl
  obtain ⟨⟨p, e4, hp, kp⟩, -⟩ := hok 6 _ rfl rfl
  obtain ⟨⟨q, e5, hq, kq⟩, -⟩ := hok 7 _ rfl rfl
  have hne := hap 6 7 _ _ rfl rfl (by decide) rfl rfl
  rw [e1, e3, e4, e5]
  rw [e4, e5] at hne
  have hpq : p ≠ q := fun e => hne (by rw [e])
  have HW := hid hW
  have HX := hid hX
  have HY := hid hY
  have KP := hid kp
  have KQ := hid kq
  obtain ⟨⟨z0, z1⟩, z2, z3⟩ := label_zero kp
  have hqp : q ≠ p := fun e => hpq e.symm
  obtain ⟨⟨y0, y1⟩, y2, y3⟩ := label_zero kq
  clear hok hap hW hX hY kp kq e1 e3 e4 e5 hne
  obtain ⟨dj, hdj⟩ : ∃ dj, max d0 d1 = dj := ⟨_, rfl⟩
  obtain ⟨dm, hdm⟩ : ∃ dm, min d0 d1 = dm := ⟨_, rfl⟩
  obtain ⟨lj, hlj⟩ : ∃ lj, joinL d0 l0 d1 l1 = lj := ⟨_, rfl⟩
  obtain ⟨lm, hlm⟩ : ∃ lm, meetL d0 l0 d1 l1 = lm := ⟨_, rfl⟩
  rw [hlj] at HX
  rw [hlm] at HY
  rw [hdj, hdm]
  go_wp2_with (refine wp_list_told 28 28 nil_ rfl (by decide) ?_)
  obtain ⟨Wp, hwp, K1, K2, BW⟩ := put2 KP.out KQ.out hpq (.int .i64 dj) (.slice X nx cx) (.int .i64 dm) (.slice Y ny cy)
  rw [hwp]
  have hs := HW.out.size
  have hs2 := BW.size
  have hD : ∀ g, (g = p ∨ g = q) → Bare W g := fun g hg => by
    rcases hg with rfl | rfl
    · exact bare26 KP.out
    · exact bare26 KQ.out
  have HX2 := hid ((HX.out.keep (Nat.le_refl _) BW hD).more hs2)
  have HY2 := hid ((HY.out.keep (Nat.le_refl _) BW hD).more hs2)
  have HBp : Hid (Below w1.heap.size w1 Wp) := BW.done (since_below HW.out (Nat.le_refl _)) (fun k hk => by rcases hk with rfl | rfl <;> omega) hs
  have H02 := hid ((H01.out.below HBp.out).more HBp.out.size)
  have H12 := hid ((H11.out.below HBp.out).more HBp.out.size)
  have H22 := hid ((H21.out.below HBp.out).more HBp.out.size)
  have HP12 := hid (HP11.out.below HBp.out HP11.out.lt)
  have HP22 := hid (HP21.out.below HBp.out HP21.out.lt)
  have HP32 := hid (HP31.out.below HBp.out HP31.out.lt)
  have HB2 := hid (HB1.out.trans (HBp.out.mono HB1.out.size))
  have K1 := hid K1
  have K2 := hid K2
  clear hwp BW hD hs hs2 z0 z1 z2 z3 y0 y1 y2 y3
  have HF2 : Hid (∀ W, But nil_ Wp W → (((W.cell? ⟨w.heap.size, 0, none⟩ = some (.int .i64 d0) ∧ W.cell? ⟨w.heap.size, 1, none⟩ = some (.slice A0 n0 c0)) ∧ (W.cell? ⟨w.heap.size + 1, 0, none⟩ = some (.int .i64 d1) ∧ W.cell? ⟨w.heap.size + 1, 1, none⟩ = some (.slice A1 n1 c1))) ∧ ((W.cell? ⟨p, 0, none⟩ = some (.int .i64 dj) ∧ W.cell? ⟨p, 1, none⟩ = some (.slice X nx cx)) ∧ (W.cell? ⟨q, 0, none⟩ = some (.int .i64 dm) ∧ W.cell? ⟨q, 1, none⟩ = some (.slice Y ny cy)))) ∧ (W.cell? ⟨w.heap.size + 1 + 1, 0, none⟩ = some (.int .i64 d2) ∧ W.cell? ⟨w.heap.size + 1 + 1, 1, none⟩ = some (.slice A2 n2 c2))) := by
    intro W hW
    exact ⟨⟨⟨(hW.blk HP12.out (fun h => h)).cells2, (hW.blk HP22.out (fun h => h)).cells2⟩, (hW.blk K1.out (fun h => h)).cells2, (hW.blk K2.out (fun h => h)).cells2⟩, (hW.blk HP32.out (fun h => h)).cells2⟩
  have L : Hid (∀ (a : Int) (A : Option Addr) (n c : Nat) (l : List (Int × Int)) (b : Int) (B : Option Addr) (m k : Nat) (j : List (Int × Int)) (r : Bool), CatsAt Wp Wp.heap.size A n c l → CatsAt Wp Wp.heap.size B m k j → leqB a l b j = r → ∀ W, But nil_ Wp W → Calls Try.prog 40 #[.agg #[.int .i64 a, .slice A n c], .agg #[.int .i64 b, .slice B m k]] W fun e w' => e = .returned (.bool r) ∧ Below W.heap.size W w') := by
    intro a A n c l b B m k j r h h' hr W hW
    rw [← hr]
    exact leq40 W a b A B n c m k l j (h.since_ hW) (h'.since_ hW)
  have J1 : Hid (leqB d0 l0 dj lj = true) := by rw [← hdj, ← hlj]; exact leq_join1 d0 l0 d1 l1
  have J2 : Hid (leqB d1 l1 dj lj = true) := by rw [← hdj, ← hlj]; exact leq_join2 d0 l0 d1 l1
  have M1 : Hid (leqB dm lm d0 l0 = true) := by rw [← hdm, ← hlm]; exact leq_meet1 d0 l0 d1 l1
  have M2 : Hid (leqB dm lm d1 l1 = true) := by rw [← hdm, ← hlm]; exact leq_meet2 d0 l0 d1 l1
  have LUB : Hid (leqB d0 l0 d2 l2 = true → leqB dj lj d2 l2 = leqB d1 l1 d2 l2) := by rw [← hdj, ← hlj]; exact leq_lub d0 l0 d1 l1 d2 l2
  have GLB : Hid (leqB d2 l2 d0 l0 = true → leqB d2 l2 dm lm = leqB d2 l2 d1 l1) := by rw [← hdm, ← hlm]; exact leq_glb d0 l0 d1 l1 d2 l2
  clear hdj hlj hdm hlm
  simp only [List.take_succ_cons, List.take_zero, List.drop_succ_cons, List.drop_zero]
  repeat (refine told_val (v := ?_) (fun _ => rfl) (fun vs W hW => ?_) ?_; rotate_left; (focus (have hf := HF2.out W hW; clear hW; go_simp; exact loose_val)); simp only [Act.put, List.setIfInBounds_toArray, List.set_cons_zero, List.set_cons_succ, List.nil_append, List.cons_append, Nat.reduceAdd, Leaves.at])
  refine told_val (v := .bool true) (fun _ => rfl) (fun vs W hW => ?_) ?_
  · go_simp
    exact loose_call (L.out _ _ _ _ l0 _ _ _ _ l0 _ H02.out H02.out (leq_self d0 l0) W hW)
  simp only [Act.put, List.setIfInBounds_toArray, List.set_cons_zero, List.set_cons_succ, List.nil_append, List.cons_append, Nat.reduceAdd, Leaves.at]
  repeat (refine told_val (v := ?_) (fun _ => rfl) (fun vs W hW => ?_) ?_; rotate_left; (focus (have hf := HF2.out W hW; clear hW; go_simp; exact loose_val)); simp only [Act.put, List.setIfInBounds_toArray, List.set_cons_zero, List.set_cons_succ, List.nil_append, List.cons_append, Nat.reduceAdd, Leaves.at])
  refine told_val (v := .bool true) (fun _ => rfl) (fun vs W hW => ?_) ?_
  · go_simp
    exact loose_call (L.out _ _ _ _ l0 _ _ _ _ lj _ H02.out HX2.out J1.out W hW)
  simp only [Act.put, List.setIfInBounds_toArray, List.set_cons_zero, List.set_cons_succ, List.nil_append, List.cons_append, Nat.reduceAdd, Leaves.at]
  repeat (refine told_val (v := ?_) (fun _ => rfl) (fun vs W hW => ?_) ?_; rotate_left; (focus (have hf := HF2.out W hW; clear hW; go_simp; exact loose_val)); simp only [Act.put, List.setIfInBounds_toArray, List.set_cons_zero, List.set_cons_succ, List.nil_append, List.cons_append, Nat.reduceAdd, Leaves.at])
  refine told_val (v := .bool true) (fun _ => rfl) (fun vs W hW => ?_) ?_
  · go_simp
    exact loose_call (L.out _ _ _ _ l1 _ _ _ _ lj _ H12.out HX2.out J2.out W hW)
  simp only [Act.put, List.setIfInBounds_toArray, List.set_cons_zero, List.set_cons_succ, List.nil_append, List.cons_append, Nat.reduceAdd, Leaves.at]
  repeat (refine told_val (v := ?_) (fun _ => rfl) (fun vs W hW => ?_) ?_; rotate_left; (focus (have hf := HF2.out W hW; clear hW; go_simp; exact loose_val)); simp only [Act.put, List.setIfInBounds_toArray, List.set_cons_zero, List.set_cons_succ, List.nil_append, List.cons_append, Nat.reduceAdd, Leaves.at])
  refine told_val (v := .bool true) (fun _ => rfl) (fun vs W hW => ?_) ?_
  · go_simp
    exact loose_call (L.out _ _ _ _ lm _ _ _ _ l0 _ HY2.out H02.out M1.out W hW)
  simp only [Act.put, List.setIfInBounds_toArray, List.set_cons_zero, List.set_cons_succ, List.nil_append, List.cons_append, Nat.reduceAdd, Leaves.at]
  repeat (refine told_val (v := ?_) (fun _ => rfl) (fun vs W hW => ?_) ?_; rotate_left; (focus (have hf := HF2.out W hW; clear hW; go_simp; exact loose_val)); simp only [Act.put, List.setIfInBounds_toArray, List.set_cons_zero, List.set_cons_succ, List.nil_append, List.cons_append, Nat.reduceAdd, Leaves.at])
  refine told_val (v := .bool true) (fun _ => rfl) (fun vs W hW => ?_) ?_
  · go_simp
    exact loose_call (L.out _ _ _ _ lm _ _ _ _ l1 _ HY2.out H12.out M2.out W hW)
  simp only [Act.put, List.setIfInBounds_toArray, List.set_cons_zero, List.set_cons_succ, List.nil_append, List.cons_append, Nat.reduceAdd, Leaves.at]
  repeat (refine told_val (v := ?_) (fun _ => rfl) (fun vs W hW => ?_) ?_; rotate_left; (focus (have hf := HF2.out W hW; clear hW; go_simp; exact loose_val)); simp only [Act.put, List.setIfInBounds_toArray, List.set_cons_zero, List.set_cons_succ, List.nil_append, List.cons_append, Nat.reduceAdd, Leaves.at])
  refine told_nil ?_
  intro vs W3 hW3 hok hap
  clear hap
  dsimp only
  have HW3 := hid hW3
  clear hok hW3
  have HF3 := hid (fun W (hW : But nil_ W3 W) => HF2.out W (HW3.out.trans hW))
  obtain ⟨rab, hab⟩ : ∃ r, leqB d0 l0 d1 l1 = r := ⟨_, rfl⟩
  obtain ⟨rbc, hbc⟩ : ∃ r, leqB d1 l1 d2 l2 = r := ⟨_, rfl⟩
  have hj : leqB d0 l0 d2 l2 = true → leqB dj lj d2 l2 = rbc := fun h => by rw [LUB.out h, hbc]
  have hac : (rab && rbc) = true → leqB d0 l0 d2 l2 = true := fun h => by
    rw [Bool.and_eq_true] at h
    exact leq_trans d0 l0 d1 l1 d2 l2 (hab.trans h.1) (hbc.trans h.2)
  obtain ⟨rr, hrr⟩ : ∃ r, (rab && rbc) = r := ⟨_, rfl⟩
  rw [hrr] at hac
  have HRR := hid hrr
  have HAB := hid hab
  have HBC := hid hbc
  have HAC := hid hac
  have HJ := hid hj
  clear hab hbc hac hj hrr
  go_wp2_with (refine wp_list_told 14 14 nil_ rfl (by decide) ?_)
  simp only [List.take_succ_cons, List.take_zero, List.drop_succ_cons, List.drop_zero]
  repeat (refine told_val (v := ?_) (fun _ => rfl) (fun vs W hW => ?_) ?_; rotate_left; (focus (have hf := HF3.out W hW; clear hW; go_simp; exact loose_val)); simp only [Act.put, List.setIfInBounds_toArray, List.set_cons_zero, List.set_cons_succ, List.nil_append, List.cons_append, Nat.reduceAdd, Leaves.at])
  refine told_val (v := .bool rab) (fun _ => rfl) (fun vs W hW => ?_) ?_
  · go_simp
    exact loose_call (L.out _ _ _ _ l0 _ _ _ _ l1 _ H02.out H12.out HAB.out W (HW3.out.trans hW))
  simp only [Act.put, List.setIfInBounds_toArray, List.set_cons_zero, List.set_cons_succ, List.nil_append, List.cons_append, Nat.reduceAdd, Leaves.at]
  repeat (refine told_val (v := ?_) (fun _ => rfl) (fun vs W hW => ?_) ?_; rotate_left; (focus (have hf := HF3.out W hW; clear hW; go_simp; exact loose_val)); simp only [Act.put, List.setIfInBounds_toArray, List.set_cons_zero, List.set_cons_succ, List.nil_append, List.cons_append, Nat.reduceAdd, Leaves.at])
  repeat (refine told_maybe (b := rab) (v := ?_) (fun _ => Bool.casesOn rab rfl rfl) (fun hb vs W hW => ?_) ?_; rotate_left; (focus (have hf := HF3.out W hW; clear hW; (try simp only [hb, cond_true, cond_false]); go_simp; exact loose_val)); simp only [Act.put, List.setIfInBounds_toArray, List.set_cons_zero, List.set_cons_succ, List.nil_append, List.cons_append, Nat.reduceAdd, Leaves.at])
  refine told_maybe (b := rab) (v := .bool rbc) (fun _ => Bool.casesOn rab rfl rfl) (fun hb vs W hW => ?_) ?_
  · try simp only [hb, cond_true, cond_false]
    go_simp
    exact loose_call (L.out _ _ _ _ l1 _ _ _ _ l2 _ H12.out H22.out HBC.out W (HW3.out.trans hW))
  simp only [Act.put, List.setIfInBounds_toArray, List.set_cons_zero, List.set_cons_succ, List.nil_append, List.cons_append, Nat.reduceAdd, Leaves.at]
  refine told_val (v := .bool (rab && rbc)) (fun _ => rfl) (fun vs W hW => ?_) ?_
  · cases rab <;> (go_simp; exact loose_val)
  simp only [Act.put, List.setIfInBounds_toArray, List.set_cons_zero, List.set_cons_succ, List.nil_append, List.cons_append, Nat.reduceAdd, Leaves.at]
  rw [HRR.out]
  repeat (refine told_val (v := ?_) (fun _ => rfl) (fun vs W hW => ?_) ?_; rotate_left; (focus (have hf := HF3.out W hW; clear hW; go_simp; exact loose_val)); simp only [Act.put, List.setIfInBounds_toArray, List.set_cons_zero, List.set_cons_succ, List.nil_append, List.cons_append, Nat.reduceAdd, Leaves.at])
  repeat (refine told_maybe (b := rr) (v := ?_) (fun _ => Bool.casesOn rr rfl rfl) (fun hb vs W hW => ?_) ?_; rotate_left; (focus (have hf := HF3.out W hW; clear hW; (try simp only [hb, cond_true, cond_false]); go_simp; exact loose_val)); simp only [Act.put, List.setIfInBounds_toArray, List.set_cons_zero, List.set_cons_succ, List.nil_append, List.cons_append, Nat.reduceAdd, Leaves.at])
  refine told_maybe (b := rr) (v := .bool true) (fun _ => Bool.casesOn rr rfl rfl) (fun hb vs W hW => ?_) ?_
  · try simp only [hb, cond_true, cond_false]
    go_simp
    exact loose_call (L.out _ _ _ _ l0 _ _ _ _ l2 _ H02.out H22.out (HAC.out hb) W (HW3.out.trans hW))
  simp only [Act.put, List.setIfInBounds_toArray, List.set_cons_zero, List.set_cons_succ, List.nil_append, List.cons_append, Nat.reduceAdd, Leaves.at]
  repeat (refine told_maybe (b := rr) (v := ?_) (fun _ => Bool.casesOn rr rfl rfl) (fun hb vs W hW => ?_) ?_; rotate_left; (focus (have hf := HF3.out W hW; clear hW; (try simp only [hb, cond_true, cond_false]); go_simp; exact loose_val)); simp only [Act.put, List.setIfInBounds_toArray, List.set_cons_zero, List.set_cons_succ, List.nil_append, List.cons_append, Nat.reduceAdd, Leaves.at])
  refine told_val (v := .bool false) (fun _ => rfl) (fun vs W hW => ?_) ?_
  · cases rr <;> (go_simp; exact loose_val)
  simp only [Act.put, List.setIfInBounds_toArray, List.set_cons_zero, List.set_cons_succ, List.nil_append, List.cons_append, Nat.reduceAdd, Leaves.at]
  refine told_nil ?_
  intro vs W4 hW4 hok hap
  clear hap
  dsimp only
  have HW4 := hid (HW3.out.trans hW4)
  clear hok hW4
  have HF4 := hid (fun W (hW : But nil_ W4 W) => HF2.out W (HW4.out.trans hW))
  obtain ⟨rac, hac⟩ : ∃ r, leqB d0 l0 d2 l2 = r := ⟨_, rfl⟩
  have HJ2 : Hid (rac = true → leqB dj lj d2 l2 = rbc) := fun h => HJ.out (hac.trans h)
  have HAC2 := hid hac
  clear hac
  go_wp2_with fail
  refine wp_region_told 12 nil_ mixed (by kernel_rfl) ?_
  simp only [List.take_succ_cons, List.take_zero, List.drop_succ_cons, List.drop_zero]
  repeat (refine told_val (v := ?_) (fun _ => rfl) (fun vs W hW => ?_) ?_; rotate_left; (focus (have hf := HF4.out W hW; clear hW; go_simp; exact loose_val)); simp only [Act.put, List.setIfInBounds_toArray, List.set_cons_zero, List.set_cons_succ, List.nil_append, List.cons_append, Nat.reduceAdd, Leaves.at])
  refine told_val (v := .bool rac) (fun _ => rfl) (fun vs W hW => ?_) ?_
  · go_simp
    exact loose_call (L.out _ _ _ _ l0 _ _ _ _ l2 _ H02.out H22.out HAC2.out W (HW4.out.trans hW))
  simp only [Act.put, List.setIfInBounds_toArray, List.set_cons_zero, List.set_cons_succ, List.nil_append, List.cons_append, Nat.reduceAdd, Leaves.at]
  repeat (refine told_val (v := ?_) (fun _ => rfl) (fun vs W hW => ?_) ?_; rotate_left; (focus (have hf := HF4.out W hW; clear hW; go_simp; exact loose_val)); simp only [Act.put, List.setIfInBounds_toArray, List.set_cons_zero, List.set_cons_succ, List.nil_append, List.cons_append, Nat.reduceAdd, Leaves.at])
  repeat (refine told_maybe (b := rac) (v := ?_) (fun _ => Bool.casesOn rac rfl rfl) (fun hb vs W hW => ?_) ?_; rotate_left; (focus (have hf := HF4.out W hW; clear hW; (try simp only [hb, cond_true, cond_false]); go_simp; exact loose_val)); simp only [Act.put, List.setIfInBounds_toArray, List.set_cons_zero, List.set_cons_succ, List.nil_append, List.cons_append, Nat.reduceAdd, Leaves.at])
  refine told_maybe (b := rac) (v := .bool rbc) (fun _ => Bool.casesOn rac rfl rfl) (fun hb vs W hW => ?_) ?_
  · try simp only [hb, cond_true, cond_false]
    go_simp
    exact loose_call (L.out _ _ _ _ l1 _ _ _ _ l2 _ H12.out H22.out HBC.out W (HW4.out.trans hW))
  simp only [Act.put, List.setIfInBounds_toArray, List.set_cons_zero, List.set_cons_succ, List.nil_append, List.cons_append, Nat.reduceAdd, Leaves.at]
  repeat (refine told_maybe (b := rac) (v := ?_) (fun _ => Bool.casesOn rac rfl rfl) (fun hb vs W hW => ?_) ?_; rotate_left; (focus (have hf := HF4.out W hW; clear hW; (try simp only [hb, cond_true, cond_false]); go_simp; exact loose_val)); simp only [Act.put, List.setIfInBounds_toArray, List.set_cons_zero, List.set_cons_succ, List.nil_append, List.cons_append, Nat.reduceAdd, Leaves.at])
  refine told_maybe (b := rac) (v := .bool rbc) (fun _ => Bool.casesOn rac rfl rfl) (fun hb vs W hW => ?_) ?_
  · try simp only [hb, cond_true, cond_false]
    go_simp
    exact loose_call (L.out _ _ _ _ lj _ _ _ _ l2 _ HX2.out H22.out (HJ2.out hb) W (HW4.out.trans hW))
  simp only [Act.put, List.setIfInBounds_toArray, List.set_cons_zero, List.set_cons_succ, List.nil_append, List.cons_append, Nat.reduceAdd, Leaves.at]
  refine told_maybe (b := rac) (v := .bool false) (fun _ => Bool.casesOn rac rfl rfl) (fun hb vs W hW => ?_) ?_
  · simp only [hb, cond_true]; go_simp; (cases rbc <;> exact loose_val)
  simp only [Act.put, List.setIfInBounds_toArray, List.set_cons_zero, List.set_cons_succ, List.nil_append, List.cons_append, Nat.reduceAdd, Leaves.at]
  refine told_val (v := .bool false) (fun _ => rfl) (fun vs W hW => ?_) ?_
  · cases rac <;> (go_simp; exact loose_val)
  simp only [Act.put, List.setIfInBounds_toArray, List.set_cons_zero, List.set_cons_succ, List.nil_append, List.cons_append, Nat.reduceAdd, Leaves.at]
  refine told_nil ?_
  intro vs W5 hW5 hok hap
  clear hap
  dsimp only
  have HW5 := hid (HW4.out.trans hW5)
  clear hok hW5
  have HF5 := hid (fun W (hW : But nil_ W5 W) => HF2.out W (HW5.out.trans hW))
  obtain ⟨rca, hca⟩ : ∃ r, leqB d2 l2 d0 l0 = r := ⟨_, rfl⟩
  obtain ⟨rcb, hcb⟩ : ∃ r, leqB d2 l2 d1 l1 = r := ⟨_, rfl⟩
  have HM2 : Hid (rca = true → leqB d2 l2 dm lm = rcb) := fun h => (GLB.out (hca.trans h)).trans hcb
  have HCA := hid hca
  have HCB := hid hcb
  clear hca hcb
  go_wp2_with fail
  refine wp_region_told 12 nil_ mixed (by kernel_rfl) ?_
  simp only [List.take_succ_cons, List.take_zero, List.drop_succ_cons, List.drop_zero]
  repeat (refine told_val (v := ?_) (fun _ => rfl) (fun vs W hW => ?_) ?_; rotate_left; (focus (have hf := HF5.out W hW; clear hW; go_simp; exact loose_val)); simp only [Act.put, List.setIfInBounds_toArray, List.set_cons_zero, List.set_cons_succ, List.nil_append, List.cons_append, Nat.reduceAdd, Leaves.at])
  refine told_val (v := .bool rca) (fun _ => rfl) (fun vs W hW => ?_) ?_
  · go_simp
    exact loose_call (L.out _ _ _ _ l2 _ _ _ _ l0 _ H22.out H02.out HCA.out W (HW5.out.trans hW))
  simp only [Act.put, List.setIfInBounds_toArray, List.set_cons_zero, List.set_cons_succ, List.nil_append, List.cons_append, Nat.reduceAdd, Leaves.at]
  repeat (refine told_val (v := ?_) (fun _ => rfl) (fun vs W hW => ?_) ?_; rotate_left; (focus (have hf := HF5.out W hW; clear hW; go_simp; exact loose_val)); simp only [Act.put, List.setIfInBounds_toArray, List.set_cons_zero, List.set_cons_succ, List.nil_append, List.cons_append, Nat.reduceAdd, Leaves.at])
  repeat (refine told_maybe (b := rca) (v := ?_) (fun _ => Bool.casesOn rca rfl rfl) (fun hb vs W hW => ?_) ?_; rotate_left; (focus (have hf := HF5.out W hW; clear hW; (try simp only [hb, cond_true, cond_false]); go_simp; exact loose_val)); simp only [Act.put, List.setIfInBounds_toArray, List.set_cons_zero, List.set_cons_succ, List.nil_append, List.cons_append, Nat.reduceAdd, Leaves.at])
  refine told_maybe (b := rca) (v := .bool rcb) (fun _ => Bool.casesOn rca rfl rfl) (fun hb vs W hW => ?_) ?_
  · try simp only [hb, cond_true, cond_false]
    go_simp
    exact loose_call (L.out _ _ _ _ l2 _ _ _ _ l1 _ H22.out H12.out HCB.out W (HW5.out.trans hW))
  simp only [Act.put, List.setIfInBounds_toArray, List.set_cons_zero, List.set_cons_succ, List.nil_append, List.cons_append, Nat.reduceAdd, Leaves.at]
  repeat (refine told_maybe (b := rca) (v := ?_) (fun _ => Bool.casesOn rca rfl rfl) (fun hb vs W hW => ?_) ?_; rotate_left; (focus (have hf := HF5.out W hW; clear hW; (try simp only [hb, cond_true, cond_false]); go_simp; exact loose_val)); simp only [Act.put, List.setIfInBounds_toArray, List.set_cons_zero, List.set_cons_succ, List.nil_append, List.cons_append, Nat.reduceAdd, Leaves.at])
  refine told_maybe (b := rca) (v := .bool rcb) (fun _ => Bool.casesOn rca rfl rfl) (fun hb vs W hW => ?_) ?_
  · try simp only [hb, cond_true, cond_false]
    go_simp
    exact loose_call (L.out _ _ _ _ l2 _ _ _ _ lm _ H22.out HY2.out (HM2.out hb) W (HW5.out.trans hW))
  simp only [Act.put, List.setIfInBounds_toArray, List.set_cons_zero, List.set_cons_succ, List.nil_append, List.cons_append, Nat.reduceAdd, Leaves.at]
  refine told_maybe (b := rca) (v := .bool false) (fun _ => Bool.casesOn rca rfl rfl) (fun hb vs W hW => ?_) ?_
  · simp only [hb, cond_true]; go_simp; (cases rcb <;> exact loose_val)
  simp only [Act.put, List.setIfInBounds_toArray, List.set_cons_zero, List.set_cons_succ, List.nil_append, List.cons_append, Nat.reduceAdd, Leaves.at]
  refine told_val (v := .bool false) (fun _ => rfl) (fun vs W hW => ?_) ?_
  · cases rca <;> (go_simp; exact loose_val)
  simp only [Act.put, List.setIfInBounds_toArray, List.set_cons_zero, List.set_cons_succ, List.nil_append, List.cons_append, Nat.reduceAdd, Leaves.at]
  refine told_nil ?_
  intro vs W6 hW6 hok hap
  clear hap
  dsimp only
  have HW6 := hid (HW5.out.trans hW6)
  clear hok hW6
  have HF6 := hid (fun W (hW : But nil_ W6 W) => HF2.out W (HW6.out.trans hW))
  have HB6 := hid (HB2.out.trans (since_below HW6.out HB2.out.size))
  have H06 := hid (H02.out.since_ HW6.out)
  have H16 := hid (H12.out.since_ HW6.out)
  have hlj := joinL_len d0 l0 d1 l1
  have hl0 := H02.out.len
  have hl1 := H12.out.len
  have hsm := same_least d0 l0 d1 l1
  rw [HAB.out] at hsm
  have HSM := hid hsm
  have HSJ := hid (same_join d0 l0 d1 l1)
  have HSA := hid (same_absorb d0 l0 d1 l1)
  clear hsm
  have HJL : Hid (∀ W, But nil_ W6 W → Calls Try.prog 43 #[.agg #[.int .i64 d0, .slice A0 n0 c0], .agg #[.int .i64 d1, .slice A1 n1 c1]] W fun e w' => RetLab (max d0 d1) (joinL d0 l0 d1 l1) W e w') :=
    fun W hW => join43_l W d0 d1 A0 A1 n0 c0 n1 c1 l0 l1 (H06.out.since_ hW) (H16.out.since_ hW) (by omega)
  generalize joinL d0 l0 d1 l1 = jl at *
  go_wp2_with fail
  refine wp_region_told 28 nil_ mixed (by kernel_rfl) ?_
  simp only [List.take_succ_cons, List.take_zero, List.drop_succ_cons, List.drop_zero]
  repeat (refine told_val (v := ?_) (fun _ => rfl) (fun vs W hW => ?_) ?_; rotate_left; (focus (have hf := HF6.out W hW; clear hW; go_simp; exact loose_val)); simp only [Act.put, List.setIfInBounds_toArray, List.set_cons_zero, List.set_cons_succ, List.nil_append, List.cons_append, Nat.reduceAdd, Leaves.at])
  refine told_rel (LabR (max d0 d1) jl) LabR.stable (fun _ => rfl) (fun vs W hW hd => ?_) ?_
  · clear hd
    go_simp
    exact loose_callR (HJL.out W hW)
  simp only [Act.put, List.setIfInBounds_toArray, List.set_cons_zero, List.set_cons_succ, List.nil_append, List.cons_append, Nat.reduceAdd, Leaves.at]
  repeat (refine told_val (v := ?_) (fun _ => rfl) (fun vs W hW => ?_) ?_; rotate_left; (focus (have hf := HF6.out W hW; clear hW; go_simp; exact loose_val)); simp only [Act.put, List.setIfInBounds_toArray, List.set_cons_zero, List.set_cons_succ, List.nil_append, List.cons_append, Nat.reduceAdd, Leaves.at])
  refine told_rel (LabR (max d1 d0) (joinL d1 l1 d0 l0)) LabR.stable (fun _ => rfl) (fun vs W hW hd => ?_) ?_
  · clear hd
    go_simp
    exact loose_callR (join43_l W d1 d0 A1 A0 n1 c1 n0 c0 l1 l0 (H16.out.since_ hW) (H06.out.since_ hW) (by omega))
  simp only [Act.put, List.setIfInBounds_toArray, List.set_cons_zero, List.set_cons_succ, List.nil_append, List.cons_append, Nat.reduceAdd, Leaves.at]
  refine told_val' (v := .bool true) (fun _ => rfl) (fun vs W hW hd => ?_) ?_
  · obtain ⟨P2, m2, k2, e2, hT2⟩ := hd ⟨2, .data⟩ (by simp) rfl _ rfl (fun h => by cases h)
    obtain ⟨P5, m5, k5, e5, hT5⟩ := hd ⟨5, .data⟩ (by simp) rfl _ rfl (fun h => by cases h)
    clear hd
    go_simp
    exact loose_call (by rw [← HSJ.out]; exact same42 W _ _ P2 P5 m2 k2 m5 k5 _ _ hT2 hT5)
  simp only [Act.put, List.setIfInBounds_toArray, List.set_cons_zero, List.set_cons_succ, List.nil_append, List.cons_append, Nat.reduceAdd, Leaves.at]
  repeat (refine told_val (v := ?_) (fun _ => rfl) (fun vs W hW => ?_) ?_; rotate_left; (focus (have hf := HF6.out W hW; clear hW; go_simp; exact loose_val)); simp only [Act.put, List.setIfInBounds_toArray, List.set_cons_zero, List.set_cons_succ, List.nil_append, List.cons_append, Nat.reduceAdd, Leaves.at])
  refine told_rel (LabR (max d0 d1) jl) LabR.stable (fun _ => rfl) (fun vs W hW hd => ?_) ?_
  · clear hd
    go_simp
    exact loose_callR (HJL.out W hW)
  simp only [Act.put, List.setIfInBounds_toArray, List.set_cons_zero, List.set_cons_succ, List.nil_append, List.cons_append, Nat.reduceAdd, Leaves.at]
  refine told_rel (LabR (min d0 (max d0 d1)) (meetL d0 l0 (max d0 d1) jl)) LabR.stable (fun _ => rfl) (fun vs W hW hd => ?_) ?_
  · obtain ⟨P11, m11, k11, e11, hT11⟩ := hd ⟨11, .data⟩ (by simp) rfl _ rfl (fun h => by cases h)
    clear hd
    go_simp
    exact loose_callR (meet44_l W d0 _ A0 P11 n0 c0 m11 k11 l0 jl (H06.out.since_ hW) hT11 (by have := hT11.len; omega))
  simp only [Act.put, List.setIfInBounds_toArray, List.set_cons_zero, List.set_cons_succ, List.nil_append, List.cons_append, Nat.reduceAdd, Leaves.at]
  repeat (refine told_val (v := ?_) (fun _ => rfl) (fun vs W hW => ?_) ?_; rotate_left; (focus (have hf := HF6.out W hW; clear hW; go_simp; exact loose_val)); simp only [Act.put, List.setIfInBounds_toArray, List.set_cons_zero, List.set_cons_succ, List.nil_append, List.cons_append, Nat.reduceAdd, Leaves.at])
  refine told_val' (v := .bool true) (fun _ => rfl) (fun vs W hW hd => ?_) ?_
  · obtain ⟨P12, m12, k12, e12, hT12⟩ := hd ⟨12, .data⟩ (by simp) rfl _ rfl (fun h => by cases h)
    clear hd
    go_simp
    exact loose_call (by rw [← HSA.out]; exact same42 W _ _ P12 A0 m12 k12 n0 c0 _ _ hT12 (H06.out.since_ hW))
  simp only [Act.put, List.setIfInBounds_toArray, List.set_cons_zero, List.set_cons_succ, List.nil_append, List.cons_append, Nat.reduceAdd, Leaves.at]
  repeat (refine told_val (v := ?_) (fun _ => rfl) (fun vs W hW => ?_) ?_; rotate_left; (focus (have hf := HF6.out W hW; clear hW; go_simp; exact loose_val)); simp only [Act.put, List.setIfInBounds_toArray, List.set_cons_zero, List.set_cons_succ, List.nil_append, List.cons_append, Nat.reduceAdd, Leaves.at])
  refine told_val (v := .bool rab) (fun _ => rfl) (fun vs W hW => ?_) ?_
  · go_simp
    exact loose_call (L.out _ _ _ _ l0 _ _ _ _ l1 _ H02.out H12.out HAB.out W (HW6.out.trans hW))
  simp only [Act.put, List.setIfInBounds_toArray, List.set_cons_zero, List.set_cons_succ, List.nil_append, List.cons_append, Nat.reduceAdd, Leaves.at]
  repeat (refine told_val (v := ?_) (fun _ => rfl) (fun vs W hW => ?_) ?_; rotate_left; (focus (have hf := HF6.out W hW; clear hW; go_simp; exact loose_val)); simp only [Act.put, List.setIfInBounds_toArray, List.set_cons_zero, List.set_cons_succ, List.nil_append, List.cons_append, Nat.reduceAdd, Leaves.at])
  refine told_rel (LabR (max d0 d1) jl) LabR.stable (fun _ => rfl) (fun vs W hW hd => ?_) ?_
  · clear hd
    go_simp
    exact loose_callR (HJL.out W hW)
  simp only [Act.put, List.setIfInBounds_toArray, List.set_cons_zero, List.set_cons_succ, List.nil_append, List.cons_append, Nat.reduceAdd, Leaves.at]
  repeat (refine told_val (v := ?_) (fun _ => rfl) (fun vs W hW => ?_) ?_; rotate_left; (focus (have hf := HF6.out W hW; clear hW; go_simp; exact loose_val)); simp only [Act.put, List.setIfInBounds_toArray, List.set_cons_zero, List.set_cons_succ, List.nil_append, List.cons_append, Nat.reduceAdd, Leaves.at])
  refine told_val' (v := .bool rab) (fun _ => rfl) (fun vs W hW hd => ?_) ?_
  · obtain ⟨P22, m22, k22, e22, hT22⟩ := hd ⟨22, .data⟩ (by simp) rfl _ rfl (fun h => by cases h)
    clear hd
    go_simp
    exact loose_call (by rw [← HSM.out]; exact same42 W _ _ P22 A1 m22 k22 n1 c1 _ _ hT22 (H16.out.since_ hW))
  simp only [Act.put, List.setIfInBounds_toArray, List.set_cons_zero, List.set_cons_succ, List.nil_append, List.cons_append, Nat.reduceAdd, Leaves.at]
  refine told_val (v := .bool true) (fun _ => rfl) (fun vs W hW => ?_) ?_
  · cases rab <;> (go_simp; exact loose_val)
  simp only [Act.put, List.setIfInBounds_toArray, List.set_cons_zero, List.set_cons_succ, List.nil_append, List.cons_append, Nat.reduceAdd, Leaves.at]
  repeat (refine told_val (v := ?_) (fun _ => rfl) (fun vs W hW => ?_) ?_; rotate_left; (focus (have hf := HF6.out W hW; clear hW; go_simp; exact loose_val)); simp only [Act.put, List.setIfInBounds_toArray, List.set_cons_zero, List.set_cons_succ, List.nil_append, List.cons_append, Nat.reduceAdd, Leaves.at])
  refine told_nil ?_
  intro vs W7 hW7 hok hap
  clear hap
  dsimp only
  have HB7 := hid (HB6.out.trans (since_below hW7 HB6.out.size))
  clear hok hW7
  go_wp2_with fail
  go_ret
  exact ⟨rfl, HB7.out⟩

theorem fits {H : Type} : ∀ ds : List (DataW H), ds.length = Try.f6.params.toList.length → Rows.labelLatticeSpec.fn H ds = { results := [.lit (.bool true)], args := ds } := by
  intro ds h
  rw [Try.params6] at h
  match ds, h with
  | [e0, e1, e2], _ => rfl

set_option maxRecDepth 100000 in
theorem contract (H : Type) (enc : TypeId × Value → H) (W : World) (base : Nat) (args : Array Value) (ds gs : List (DataW H)) (before : List MemPlace)
    (hval0 : ∀ (j : Nat) t v, Try.f6.params[j]? = some t → args[j]? = some v → Value.okWide Try.prog W .any base t v)
    (hW : DataW.Whole enc Try.prog Try.f6.params.toList Rows.labelLatticeSpec.vars false W args.toList ds gs before) (hk : Rows.uptoSmall H (ds ++ gs) = true) :
    Calls Try.prog 6 args W fun e W' => ∃ v, e = .returned v ∧ Rows.labelLatticeSpec.post enc Try.prog Try.f6 false true false false W args v W' := by
  have hval : ∀ (j : Nat) t v, Try.f6.params[j]? = some t → args[j]? = some v → Value.okWide Try.prog W .any base t v := hval0
  have hpost : ∀ W', Below W.heap.size W W' → Rows.labelLatticeSpec.post enc Try.prog Try.f6 false true false false W args (.bool true) W' := fun W' hb =>
    law_post rfl rfl Try.underlying4 laidOut (by kernel_rfl) fits hW hb
  obtain ⟨p, q, hA0, hV, rfl, hfz, hnd⟩ := hW
  have hA : DataW.TrodAll enc Try.prog W 0 (fun _ => true) true Try.f6.params.toList args.toList ds p := hA0
  rw [Try.params6] at hA hval
  obtain ⟨rfl, rfl⟩ := trodVars_none hV
  obtain ⟨v0, vs0, dd0, ds0, p0, q0, hargs, rfl, rfl, h0, r0⟩ := trodAll_cons hA
  obtain ⟨v1, vs1, dd1, ds1, p1, q1, rfl, rfl, rfl, h1, r1⟩ := trodAll_cons r0
  obtain ⟨v2, vs2, dd2, ds2, p2, q2, rfl, rfl, rfl, h2, r2⟩ := trodAll_cons r1
  obtain ⟨rfl, rfl, rfl⟩ := trodAll_nil r2
  obtain rfl : args = #[v0, v1, v2] := by cases args; simp_all
  obtain ⟨d0, A0, n0, c0, l0, rfl, T0, F0, B0⟩ := open_label (hval 0 26 v0 rfl rfl) h0
  obtain ⟨d1, A1, n1, c1, l1, rfl, T1, F1, B1⟩ := open_label (hval 1 26 v1 rfl rfl) h1
  obtain ⟨d2, A2, n2, c2, l2, rfl, T2, F2, B2⟩ := open_label (hval 2 26 v2 rfl rfl) h2
  have hbk := small_of hk
  simp only [List.append_nil, List.cons_append, List.nil_append, Rows.uptoBulkAll] at hbk
  refine (walk d0 A0 n0 c0 l0 d1 A1 n1 c1 l1 d2 A2 n2 c2 l2 W T0 T1 T2 (by omega) (by omega) (by omega)).mono fun e W' ⟨he, hg⟩ => ?_
  subst he
  exact ⟨_, rfl, hpost W' hg⟩

set_option maxRecDepth 100000 in
theorem lifted (os : Os) (started : os.Started) (H : Type) (enc : TypeId × Value → H) (F : Stop.Interp) :
    ReturnsInHanded {} Try.checked os 6 .any ((Rows.OpenSpec.upto Rows.labelLatticeSpec).pre6 enc Try.prog Try.f6 Rows.labelLatticeUptoRow.domain false) (((Rows.OpenSpec.upto Rows.labelLatticeSpec).at F).post enc Try.prog Try.f6 false true false false) := by
  refine returnsInHanded_of_cond (C := Try.checked) (s := Rows.OpenSpec.upto Rows.labelLatticeSpec) (k := Rows.uptoSmall) rfl own started (by kernel_rfl) Try.func6
    (OpenSpec.witness (enc := enc) (C := Try.checked) (s := Rows.OpenSpec.upto Rows.labelLatticeSpec) (k := Rows.uptoSmall) rfl false ⟨#[], #[.agg #[.int .i64 0, .slice none 0 0], .agg #[.int .i64 0, .slice none 0 0], .agg #[.int .i64 0, .slice none 0 0]], []⟩ 8 (by kernel_rfl) (by kernel_rfl) (by kernel_rfl)
      (x := ([.agg [.lit (.int .i64 0), .nil], .agg [.lit (.int .i64 0), .nil], .agg [.lit (.int .i64 0), .nil]], [], [])) (by kernel_rfl) rfl (by kernel_rfl)) ?_
  intro W base args ds gs before hval hW _ hk _
  exact contract H enc W base args ds gs before hval hW hk

theorem closed : joinedFacts Try.prog 6 Try.f6 (Rows.OpenSpec.upto Rows.labelLatticeSpec).bare Rows.labelLatticeUptoRow = true := by
  unfold joinedFacts
  rw [enters, finals, made]
  kernel_rfl

theorem proved : Rows.LabelLatticeUptoSaid :=
  OpenClaim.holds_of_cond 6 Try.f6 rfl rfl rfl rfl rfl rfl rfl ⟨rfl, rfl, rfl, rfl, rfl⟩ rfl rfl rfl rfl rfl (by kernel_rfl) Try.func6 closed
    (of_decide_eq_true (by kernel_rfl)) (by unfold Func.isWrapper; rw [if_neg (by decide +kernel)]; exact ⟨rfl, rfl⟩)
    (fun os started H enc _ F => lifted os started H enc F)
end Go.Proofs.Ytndohmimcbmhdaa.lawLabelLattice
