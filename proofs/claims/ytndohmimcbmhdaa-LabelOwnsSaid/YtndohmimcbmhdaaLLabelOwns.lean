/-
  LabelOwns: called with any values of its parameters, the law answers true, and of what lay in memory nothing has turned. No condition.
-/
import Derived.Test.YtndohmimcbmhdaaRows
import Derived.Test.YtndohmimcbmhdaaFrame
import Derived.Test.YtndohmimcbmhdaaHead
import Derived.Test.YtndohmimcbmhdaaOp
import Derived.Test.YtndohmimcbmhdaaHy
set_option linter.unusedVariables false
set_option linter.unusedSimpArgs false
namespace Go.Proofs.Ytndohmimcbmhdaa.lawLabelOwns
open Go.ChangeShapes Go.WideShapes Go.ChangeAt Go.RowKit Go.Sort

theorem own : ownKnob Try.prog.godebug = none := by kernel_rfl
theorem laidOut : laidOutB Try.prog = true := by kernel_rfl

theorem right_level {d : Int} {l : List (Int × Int)} (h : rightB d l = true) : (1 ≤ d ∧ d ≤ 4 ∧ l.length ≤ 6) ∧ ∀ id, 0 ≤ levelL d l id ∧ levelL d l id ≤ 4 := by
  unfold rightB at h
  simp only [Bool.and_eq_true, decide_eq_true_eq, Bool.not_eq_true', List.any_eq_false] at h
  obtain ⟨h1, _, h3⟩ := h
  refine ⟨h1, fun id => ?_⟩
  unfold levelL
  cases hf : l.find? (fun c => c.1 == id) with
  | none => exact ⟨by dsimp only; omega, by dsimp only; omega⟩
  | some c =>
    have := h3 c (List.mem_of_find?_eq_some hf)
    unfold oddC at this
    simp only [decide_eq_true_eq] at this
    dsimp only
    omega

set_option maxHeartbeats 4000000 in
set_option maxRecDepth 100000 in
theorem walk (d0 : Int) (A0 : Option Addr) (n0 : Nat) (c0 : Nat) (l0 : List (Int × Int)) (a1 : Int) (b1 : Int) (a2 : Int) (w : World) (t0 : CatsAt w w.heap.size A0 n0 c0 l0) (x1 : 0 ≤ a1 ∧ a1 ≤ 18446744073709551615) (y1 : -9223372036854775808 ≤ b1 ∧ b1 ≤ 9223372036854775807) (b2 : 0 ≤ a2 ∧ a2 ≤ 18446744073709551615) (z0 : n0 ≤ 8796093022207) :
    Calls Try.prog 9 #[.agg #[.int .i64 d0, .slice A0 n0 c0], .agg #[.int .u64 a1, .int .i64 b1], .int .u64 a2] w fun e w' => e = .returned (.bool true) ∧ Below w.heap.size w w' := by
  have mixed : Try.prog.follows .mixedOrders = true := by kernel_rfl
  obtain ⟨q1, q2, q3⟩ := two_blk w #[.int .i64 d0, .slice A0 n0 c0] #[.int .u64 a1, .int .i64 b1] 26 32
  have HB := hid q1
  have HP1 := hid q2
  have HP2 := hid q3
  have H0 := hid ((t0.below q1).more q1.size)
  clear t0 q1 q2 q3
  go_enter Try.func9, Try.ntmps9
  go_wp2_with fail
  generalize (w.alloc (.cells #[.int .i64 d0, .slice A0 n0 c0] 26)).alloc (.cells #[.int .u64 a1, .int .i64 b1] 32) = wa at *
  refine (alive33 wa).mono ?_
  rintro e w1 ⟨rfl, hb1⟩
  have HB1 := hid (HB.out.trans (hb1.mono HB.out.size))
  have HP11 := hid (HP1.out.below hb1 HP1.out.lt)
  have HP21 := hid (HP2.out.below hb1 HP2.out.lt)
  have H01 := hid ((H0.out.below hb1).more hb1.size)
  clear hb1
  have HF : Hid (∀ W, But nil_ w1 W → (W.cell? ⟨w.heap.size, 0, none⟩ = some (.int .i64 d0) ∧ W.cell? ⟨w.heap.size, 1, none⟩ = some (.slice A0 n0 c0)) ∧ (W.cell? ⟨w.heap.size + 1, 0, none⟩ = some (.int .u64 a1) ∧ W.cell? ⟨w.heap.size + 1, 1, none⟩ = some (.int .i64 b1))) := by
    intro W hW
    exact ⟨(hW.blk HP11.out (fun h => h)).cells2, (hW.blk HP21.out (fun h => h)).cells2⟩
  have HS1 : Hid (levelL d0 (formL d0 ((a1, b1) :: l0)) a1 = b1) := by show _ = _; rw [level_form, levelL_cons, if_pos rfl]
  have HS2 : Hid (a1 ≠ a2 → levelL d0 (formL d0 ((a1, b1) :: l0)) a2 = levelL d0 l0 a2) := by intro h; rw [level_form, levelL_cons, if_neg h]
  go_wp2_with (refine wp_list_told 8 7 nil_ rfl (by decide) ?_)
  simp only [List.take_succ_cons, List.take_zero, List.drop_succ_cons, List.drop_zero]
  repeat (refine told_val (v := ?_) (fun _ => rfl) (fun vs W hW => ?_) ?_; rotate_left; (focus (have hf := HF.out W hW; clear hW; go_simp; exact loose_val)); simp only [Act.put, List.setIfInBounds_toArray, List.set_cons_zero, List.set_cons_succ, List.nil_append, List.cons_append, Nat.reduceAdd, Leaves.at])
  refine told_rel (LabR d0 (formL d0 ((a1, b1) :: l0))) LabR.stable (fun _ => rfl) (fun vs W hW hd => ?_) ?_
  · clear hd
    go_simp
    exact loose_callR (set49_l W d0 A0 n0 c0 l0 a1 b1 (H01.out.since_ hW) (by omega))
  simp only [Act.put, List.setIfInBounds_toArray, List.set_cons_zero, List.set_cons_succ, List.nil_append, List.cons_append, Nat.reduceAdd, Leaves.at]
  refine told_fresh (NewPtr w1.heap.size 26 #[.int .i64 0, .slice none 0 0]) (NewPtr.fresh (fun _ hk => by first | exact hk.elim | (have := hk; omega))) (fun _ => rfl) (fun vs W hW hd => ?_) ?_
  · go_simp
    exact loose_freshPtr hW.size
  simp only [Act.put, List.setIfInBounds_toArray, List.set_cons_zero, List.set_cons_succ, List.nil_append, List.cons_append, Nat.reduceAdd, Leaves.at]
  refine told_nil ?_
  intro vs W hW hok hap
  dsimp only
  obtain ⟨X, nx, cx, e1, hX⟩ := hok 5 _ rfl rfl
  obtain ⟨⟨p, e4, hp, kp⟩, -⟩ := hok 6 _ rfl rfl
  rw [e1, e4]
  have HW := hid hW
  have HX := hid hX
  have KP := hid kp
  obtain ⟨⟨z1, z2⟩, z3, z4⟩ := label_zero kp
  clear hok hap hW hX kp e1 e4
  generalize formL d0 ((a1, b1) :: l0) = ls at *
  go_wp2_with fail
  obtain ⟨Wp, hwp, K1, BW⟩ := put1 KP.out (.int .i64 d0) (.slice X nx cx)
  rw [hwp]
  have hs := HW.out.size
  have hs2 := BW.size
  have hD : ∀ g, g = p → Bare W g := fun g hg => by subst hg; exact bare26 KP.out
  have HX2 := hid ((HX.out.keep (Nat.le_refl _) BW hD).more hs2)
  have HBp : Hid (Below w1.heap.size w1 Wp) := BW.done (since_below HW.out (Nat.le_refl _)) (fun k hk => by subst hk; omega) hs
  have H02 := hid ((H01.out.below HBp.out).more HBp.out.size)
  have HP12 := hid (HP11.out.below HBp.out HP11.out.lt)
  have HP22 := hid (HP21.out.below HBp.out HP21.out.lt)
  have HB2 := hid (HB1.out.trans (HBp.out.mono HB1.out.size))
  have K1 := hid K1
  clear hwp BW hD hs hs2 z1 z2 z3 z4
  have HF2 : Hid (∀ W, But nil_ Wp W → ((W.cell? ⟨w.heap.size, 0, none⟩ = some (.int .i64 d0) ∧ W.cell? ⟨w.heap.size, 1, none⟩ = some (.slice A0 n0 c0)) ∧ (W.cell? ⟨w.heap.size + 1, 0, none⟩ = some (.int .u64 a1) ∧ W.cell? ⟨w.heap.size + 1, 1, none⟩ = some (.int .i64 b1))) ∧ (W.cell? ⟨p, 0, none⟩ = some (.int .i64 d0) ∧ W.cell? ⟨p, 1, none⟩ = some (.slice X nx cx))) := by
    intro W hW
    exact ⟨⟨(hW.blk HP12.out (fun h => h)).cells2, (hW.blk HP22.out (fun h => h)).cells2⟩, (hW.blk K1.out (fun h => h)).cells2⟩
  refine wp_region_told 22 nil_ mixed (by kernel_rfl) ?_
  simp only [List.take_succ_cons, List.take_zero, List.drop_succ_cons, List.drop_zero]
  repeat (refine told_val (v := ?_) (fun _ => rfl) (fun vs W hW => ?_) ?_; rotate_left; (focus (have hf := HF2.out W hW; clear hW; go_simp; exact loose_val)); simp only [Act.put, List.setIfInBounds_toArray, List.set_cons_zero, List.set_cons_succ, List.nil_append, List.cons_append, Nat.reduceAdd, Leaves.at])
  refine told_val (v := .int .i64 b1) (fun _ => rfl) (fun vs W hW => ?_) ?_
  · go_simp
    exact loose_call (by have := level_b W d0 X nx cx ls a1 (HX2.out.since_ hW); rw [HS1.out] at this; exact this)
  simp only [Act.put, List.setIfInBounds_toArray, List.set_cons_zero, List.set_cons_succ, List.nil_append, List.cons_append, Nat.reduceAdd, Leaves.at]
  repeat (refine told_val (v := ?_) (fun _ => rfl) (fun vs W hW => ?_) ?_; rotate_left; (focus (have hf := HF2.out W hW; clear hW; go_simp; exact loose_val)); simp only [Act.put, List.setIfInBounds_toArray, List.set_cons_zero, List.set_cons_succ, List.nil_append, List.cons_append, Nat.reduceAdd, Leaves.at])
  obtain ⟨rn, hn⟩ : ∃ r, (a2 != a1) = r := ⟨_, rfl⟩
  rw [hn]
  have HN : Hid (rn = true → a1 ≠ a2) := fun h e => by rw [← hn, e] at h; simp at h
  have HLV := hid (fun W hW => level_b W d0 A0 n0 c0 l0 a2 (H02.out.since_ hW))
  clear hn
  obtain ⟨lv, hlv⟩ : ∃ lv, levelL d0 l0 a2 = lv := ⟨_, rfl⟩
  rw [hlv] at HS2 HLV
  have HV := hid hlv
  clear hlv
  repeat (refine told_maybe (b := rn) (v := ?_) (fun _ => Bool.casesOn rn rfl rfl) (fun hb vs W hW => ?_) ?_; rotate_left; (focus (have hf := HF2.out W hW; clear hW; (try simp only [hb, cond_true, cond_false]); go_simp; exact loose_val)); simp only [Act.put, List.setIfInBounds_toArray, List.set_cons_zero, List.set_cons_succ, List.nil_append, List.cons_append, Nat.reduceAdd, Leaves.at])
  refine told_maybe (b := rn) (v := .int .i64 lv) (fun _ => Bool.casesOn rn rfl rfl) (fun hb vs W hW => ?_) ?_
  · try simp only [hb, cond_true, cond_false]
    go_simp
    exact loose_call (by have := level_b W d0 X nx cx ls a2 (HX2.out.since_ hW); rw [HS2.out (HN.out hb)] at this; exact this)
  simp only [Act.put, List.setIfInBounds_toArray, List.set_cons_zero, List.set_cons_succ, List.nil_append, List.cons_append, Nat.reduceAdd, Leaves.at]
  repeat (refine told_maybe (b := rn) (v := ?_) (fun _ => Bool.casesOn rn rfl rfl) (fun hb vs W hW => ?_) ?_; rotate_left; (focus (have hf := HF2.out W hW; clear hW; (try simp only [hb, cond_true, cond_false]); go_simp; exact loose_val)); simp only [Act.put, List.setIfInBounds_toArray, List.set_cons_zero, List.set_cons_succ, List.nil_append, List.cons_append, Nat.reduceAdd, Leaves.at])
  refine told_maybe (b := rn) (v := .int .i64 lv) (fun _ => Bool.casesOn rn rfl rfl) (fun hb vs W hW => ?_) ?_
  · try simp only [hb, cond_true, cond_false]
    go_simp
    exact loose_call (HLV.out W hW)
  simp only [Act.put, List.setIfInBounds_toArray, List.set_cons_zero, List.set_cons_succ, List.nil_append, List.cons_append, Nat.reduceAdd, Leaves.at]
  refine told_maybe (b := rn) (v := .bool false) (fun _ => Bool.casesOn rn rfl rfl) (fun hb vs W hW => ?_) ?_
  · simp only [hb, cond_true]; go_simp; (first | exact loose_val | (simp only [bne_self_eq_false]; exact loose_val))
  simp only [Act.put, List.setIfInBounds_toArray, List.set_cons_zero, List.set_cons_succ, List.nil_append, List.cons_append, Nat.reduceAdd, Leaves.at]
  refine told_val (v := .bool false) (fun _ => rfl) (fun vs W hW => ?_) ?_
  · cases rn <;> (go_simp; exact loose_val)
  simp only [Act.put, List.setIfInBounds_toArray, List.set_cons_zero, List.set_cons_succ, List.nil_append, List.cons_append, Nat.reduceAdd, Leaves.at]
  repeat (refine told_val (v := ?_) (fun _ => rfl) (fun vs W hW => ?_) ?_; rotate_left; (focus (have hf := HF2.out W hW; clear hW; go_simp; exact loose_val)); simp only [Act.put, List.setIfInBounds_toArray, List.set_cons_zero, List.set_cons_succ, List.nil_append, List.cons_append, Nat.reduceAdd, Leaves.at])
  refine told_nil ?_
  intro vs W3 hW3 hok hap
  clear hap
  dsimp only
  have HW3 := hid hW3
  have HF3 := hid (fun W (hW : But nil_ W3 W) => HF2.out W (HW3.out.trans hW))
  have HB3 := hid (HB2.out.trans (since_below hW3 HB2.out.size))
  have H03 := hid (H02.out.since_ hW3)
  have hf3 := HF3.out W3 (But.refl _ _)
  clear hok hW3
  go_wp2_with fail
  refine (right51 W3 d0 A0 n0 c0 l0 H03.out).mono ?_
  rintro e w4 ⟨rfl, hb4⟩
  have HB4 := hid (HB3.out.trans (hb4.mono HB3.out.size))
  have HW4 : Hid (But nil_ Wp w4) := since_then HW3.out hb4
  have HF4 := hid (fun W (hW : But nil_ w4 W) => HF2.out W (HW4.out.trans hW))
  clear hf3 hb4
  by_cases hr : rightB d0 l0 = true
  · obtain ⟨⟨r1, r2, r3⟩, r4⟩ := right_level hr
    have HL0 := hid (H02.out.len)
    have hn6 : n0 ≤ 6 := by rw [← HL0.out]; exact r3
    have hv := r4 a2
    rw [HV.out] at hv
    have hd0 : turnF 0 5 d0 d0 = d0 := if_neg (by omega)
    have HLE : Hid (leqB d0 l0 d0 (raiseL d0 l0) = true) := leqB_true (Int.le_refl _) fun id => by
      have := level_raise d0 l0 id
      rw [hd0] at this
      rw [this]
      have := r4 id
      unfold turnF
      split <;> omega
    have hd1 : turnF 5 0 d0 d0 = d0 := if_neg (by omega)
    have HSM : Hid (sameB d0 (lowerL d0 (raiseL d0 l0)) d0 l0 = true) := sameB_true rfl fun id => by
      have e1 := level_lower d0 (raiseL d0 l0) id
      have e2 := level_raise d0 l0 id
      rw [hd1] at e1
      rw [hd0] at e2
      rw [e1, e2]
      have := r4 id
      unfold turnF
      split <;> split <;> omega
    have HUP : Hid (levelL d0 (raiseL d0 l0) a2 = if lv = 0 then 5 else lv) := by
      have e2 := level_raise d0 l0 a2
      rw [hd0, HV.out] at e2
      show _ = _
      rw [e2]
      rfl
    have hrl := raiseL_len d0 l0
    have HRA : Hid (∀ W, But nil_ w4 W → Calls Try.prog 46 #[.agg #[.int .i64 d0, .slice A0 n0 c0]] W fun e w' => RetLab d0 (raiseL d0 l0) W e w') := by
      intro W hW
      have := raise46_l W d0 A0 n0 c0 l0 (H02.out.since_ (HW4.out.trans hW)) (by omega)
      rw [hd0] at this
      exact this
    have HLO : Hid (∀ W A n c, CatsAt W W.heap.size A n c (raiseL d0 l0) → Calls Try.prog 48 #[.agg #[.int .i64 d0, .slice A n c]] W fun e w' => RetLab d0 (lowerL d0 (raiseL d0 l0)) W e w') := by
      intro W A n c hT
      have := lower48_l W d0 A n c _ hT (by have := hT.len; omega)
      rw [hd1] at this
      exact this
    rw [hr]
    clear hr r1 r2 r3 r4 hrl
    generalize raiseL d0 l0 = rl at *
    generalize lowerL d0 rl = ll at *
    by_cases hz : lv = 0
    · subst hz
      rw [if_pos rfl] at HUP
      go_wp2_with (refine wp_list_told 4 3 nil_ rfl (by decide) ?_)
      simp only [List.take_succ_cons, List.take_zero, List.drop_succ_cons, List.drop_zero]
      repeat (refine told_val (v := ?_) (fun _ => rfl) (fun vs W hW => ?_) ?_; rotate_left; (focus (have hf := HF4.out W hW; clear hW; go_simp; exact loose_val)); simp only [Act.put, List.setIfInBounds_toArray, List.set_cons_zero, List.set_cons_succ, List.nil_append, List.cons_append, Nat.reduceAdd, Leaves.at])
      refine told_rel (LabR d0 rl) LabR.stable (fun _ => rfl) (fun vs W hW hd => ?_) ?_
      · clear hd
        go_simp
        exact loose_callR (HRA.out W hW)
      simp only [Act.put, List.setIfInBounds_toArray, List.set_cons_zero, List.set_cons_succ, List.nil_append, List.cons_append, Nat.reduceAdd, Leaves.at]
      refine told_fresh (NewPtr w4.heap.size 26 #[.int .i64 0, .slice none 0 0]) (NewPtr.fresh (fun _ hk => by first | exact hk.elim | (have := hk; omega))) (fun _ => rfl) (fun vs W hW hd => ?_) ?_
      · go_simp
        exact loose_freshPtr hW.size
      simp only [Act.put, List.setIfInBounds_toArray, List.set_cons_zero, List.set_cons_succ, List.nil_append, List.cons_append, Nat.reduceAdd, Leaves.at]
      refine told_nil ?_
      intro vs W hW hok hap
      dsimp only
      obtain ⟨Y, ny, cy, e1, hY⟩ := hok 1 _ rfl rfl
      obtain ⟨⟨q, e4, hq, kq⟩, -⟩ := hok 2 _ rfl rfl
      rw [e1, e4]
      have HWq := hid hW
      have HY := hid hY
      have KQ := hid kq
      obtain ⟨⟨z1, z2⟩, z3, z4⟩ := label_zero kq
      clear hok hap hW hY kq e1 e4
      go_wp2_with (refine wp_list_told 4 4 nil_ rfl (by decide) ?_)
      obtain ⟨Wq, hwq, K2, BWq⟩ := put1 KQ.out (.int .i64 d0) (.slice Y ny cy)
      rw [hwq]
      have hs := HWq.out.size
      have hs2 := BWq.size
      have HY2 := hid ((HY.out.keep (Nat.le_refl _) BWq fun g hg => by subst hg; exact bare26 KQ.out).more hs2)
      have HBq : Hid (Below w4.heap.size w4 Wq) := BWq.done (since_below HWq.out (Nat.le_refl _)) (fun k hk => by subst hk; omega) hs
      have H04 := hid ((H02.out.since_ HW4.out))
      have H05 := hid ((H04.out.below HBq.out).more HBq.out.size)
      have HP13 := hid ((HP12.out.below (since_below HW4.out (Nat.le_refl _)) HP12.out.lt).below HBq.out (Nat.lt_of_lt_of_le HP12.out.lt HW4.out.size))
      have HB5 := hid (HB4.out.trans (HBq.out.mono HB4.out.size))
      have K2 := hid K2
      clear hwq BWq hs hs2 z1 z2 z3 z4
      have HF5 : Hid (∀ W, But nil_ Wq W → (W.cell? ⟨w.heap.size, 0, none⟩ = some (.int .i64 d0) ∧ W.cell? ⟨w.heap.size, 1, none⟩ = some (.slice A0 n0 c0)) ∧ (W.cell? ⟨q, 0, none⟩ = some (.int .i64 d0) ∧ W.cell? ⟨q, 1, none⟩ = some (.slice Y ny cy))) := by
        intro W hW
        exact ⟨(hW.blk HP13.out (fun h => h)).cells2, (hW.blk K2.out (fun h => h)).cells2⟩
      simp only [List.take_succ_cons, List.take_zero, List.drop_succ_cons, List.drop_zero]
      repeat (refine told_val (v := ?_) (fun _ => rfl) (fun vs W hW => ?_) ?_; rotate_left; (focus (have hf := HF5.out W hW; clear hW; go_simp; exact loose_val)); simp only [Act.put, List.setIfInBounds_toArray, List.set_cons_zero, List.set_cons_succ, List.nil_append, List.cons_append, Nat.reduceAdd, Leaves.at])
      refine told_val (v := .int .i64 5) (fun _ => rfl) (fun vs W hW => ?_) ?_
      · go_simp
        exact loose_call (by have := level_b W d0 Y ny cy rl a2 (HY2.out.since_ hW); rw [HUP.out] at this; exact this)
      simp only [Act.put, List.setIfInBounds_toArray, List.set_cons_zero, List.set_cons_succ, List.nil_append, List.cons_append, Nat.reduceAdd, Leaves.at]
      repeat (refine told_val (v := ?_) (fun _ => rfl) (fun vs W hW => ?_) ?_; rotate_left; (focus (have hf := HF5.out W hW; clear hW; go_simp; exact loose_val)); simp only [Act.put, List.setIfInBounds_toArray, List.set_cons_zero, List.set_cons_succ, List.nil_append, List.cons_append, Nat.reduceAdd, Leaves.at])
      refine told_nil ?_
      intro vs W6 hW6 hok hap
      clear hap
      dsimp only
      have HW6 := hid hW6
      have HF6 := hid (fun W (hW : But nil_ W6 W) => HF5.out W (HW6.out.trans hW))
      have HB6 := hid (HB5.out.trans (since_below hW6 HB5.out.size))
      clear hok hW6
      have HLW := hid (fun W (hW : But nil_ W6 W) => level_b W d0 A0 n0 c0 l0 a2 (H05.out.since_ (HW6.out.trans hW)))
      rw [HV.out] at HLW
      go_wp2_with fail
      refine wp_region_told 30 nil_ mixed (by kernel_rfl) ?_
      simp only [List.take_succ_cons, List.take_zero, List.drop_succ_cons, List.drop_zero]
      repeat (refine told_val (v := ?_) (fun _ => rfl) (fun vs W hW => ?_) ?_; rotate_left; (focus (have hf := HF6.out W hW; clear hW; go_simp; exact loose_val)); simp only [Act.put, List.setIfInBounds_toArray, List.set_cons_zero, List.set_cons_succ, List.nil_append, List.cons_append, Nat.reduceAdd, Leaves.at])
      refine told_rel (LabR d0 ll) LabR.stable (fun _ => rfl) (fun vs W hW hd => ?_) ?_
      · clear hd
        go_simp
        exact loose_callR (HLO.out W _ _ _ (HY2.out.since_ (HW6.out.trans hW)))
      simp only [Act.put, List.setIfInBounds_toArray, List.set_cons_zero, List.set_cons_succ, List.nil_append, List.cons_append, Nat.reduceAdd, Leaves.at]
      repeat (refine told_val (v := ?_) (fun _ => rfl) (fun vs W hW => ?_) ?_; rotate_left; (focus (have hf := HF6.out W hW; clear hW; go_simp; exact loose_val)); simp only [Act.put, List.setIfInBounds_toArray, List.set_cons_zero, List.set_cons_succ, List.nil_append, List.cons_append, Nat.reduceAdd, Leaves.at])
      refine told_val' (v := .bool true) (fun _ => rfl) (fun vs W hW hd => ?_) ?_
      · obtain ⟨P1, m1, k1, e1, hT1⟩ := hd ⟨1, .data⟩ (by simp) rfl _ rfl (fun h => by cases h)
        clear hd
        go_simp
        exact loose_call (by rw [← HSM.out]; exact same42 W _ _ P1 A0 m1 k1 n0 c0 _ _ hT1 (H05.out.since_ (HW6.out.trans hW)))
      simp only [Act.put, List.setIfInBounds_toArray, List.set_cons_zero, List.set_cons_succ, List.nil_append, List.cons_append, Nat.reduceAdd, Leaves.at]
      repeat (refine told_val (v := ?_) (fun _ => rfl) (fun vs W hW => ?_) ?_; rotate_left; (focus (have hf := HF6.out W hW; clear hW; go_simp; exact loose_val)); simp only [Act.put, List.setIfInBounds_toArray, List.set_cons_zero, List.set_cons_succ, List.nil_append, List.cons_append, Nat.reduceAdd, Leaves.at])
      refine told_val (v := .bool true) (fun _ => rfl) (fun vs W hW => ?_) ?_
      · go_simp
        exact loose_call (by rw [← HLE.out]; exact leq40 W _ _ A0 Y n0 c0 ny cy _ _ (H05.out.since_ (HW6.out.trans hW)) (HY2.out.since_ (HW6.out.trans hW)))
      simp only [Act.put, List.setIfInBounds_toArray, List.set_cons_zero, List.set_cons_succ, List.nil_append, List.cons_append, Nat.reduceAdd, Leaves.at]
      repeat (refine told_val (v := ?_) (fun _ => rfl) (fun vs W hW => ?_) ?_; rotate_left; (focus (have hf := HF6.out W hW; clear hW; go_simp; exact loose_val)); simp only [Act.put, List.setIfInBounds_toArray, List.set_cons_zero, List.set_cons_succ, List.nil_append, List.cons_append, Nat.reduceAdd, Leaves.at])
      refine told_val (v := .int .i64 0) (fun _ => rfl) (fun vs W hW => ?_) ?_
      · go_simp
        exact loose_call (HLW.out W hW)
      simp only [Act.put, List.setIfInBounds_toArray, List.set_cons_zero, List.set_cons_succ, List.nil_append, List.cons_append, Nat.reduceAdd, Leaves.at]
      repeat (first | (refine told_off (fun _ => rfl) ?_; simp only [Act.put, List.setIfInBounds_toArray, List.set_cons_zero, List.set_cons_succ, List.nil_append, List.cons_append, Nat.reduceAdd, Leaves.at]) | (refine told_val (v := ?_) (fun _ => rfl) (fun vs W hW => ?_) ?_; rotate_left; (focus (have hf := HF6.out W hW; clear hW; go_simp; exact loose_val)); simp only [Act.put, List.setIfInBounds_toArray, List.set_cons_zero, List.set_cons_succ, List.nil_append, List.cons_append, Nat.reduceAdd, Leaves.at]))
      refine told_nil ?_
      intro vs W7 hW7 hok hap
      clear hap
      dsimp only
      have HB7 := hid (HB6.out.trans (since_below hW7 HB6.out.size))
      clear hok hW7
      go_wp2_with fail
      go_ret
      exact ⟨rfl, HB7.out⟩
    · rw [if_neg hz] at HUP
      have k5 : (lv == 5) = false := by simp; omega
      have k0 : (lv == 0) = false := by simpa using hz
      go_wp2_with (refine wp_list_told 4 3 nil_ rfl (by decide) ?_)
      simp only [List.take_succ_cons, List.take_zero, List.drop_succ_cons, List.drop_zero]
      repeat (refine told_val (v := ?_) (fun _ => rfl) (fun vs W hW => ?_) ?_; rotate_left; (focus (have hf := HF4.out W hW; clear hW; go_simp; exact loose_val)); simp only [Act.put, List.setIfInBounds_toArray, List.set_cons_zero, List.set_cons_succ, List.nil_append, List.cons_append, Nat.reduceAdd, Leaves.at])
      refine told_rel (LabR d0 rl) LabR.stable (fun _ => rfl) (fun vs W hW hd => ?_) ?_
      · clear hd
        go_simp
        exact loose_callR (HRA.out W hW)
      simp only [Act.put, List.setIfInBounds_toArray, List.set_cons_zero, List.set_cons_succ, List.nil_append, List.cons_append, Nat.reduceAdd, Leaves.at]
      refine told_fresh (NewPtr w4.heap.size 26 #[.int .i64 0, .slice none 0 0]) (NewPtr.fresh (fun _ hk => by first | exact hk.elim | (have := hk; omega))) (fun _ => rfl) (fun vs W hW hd => ?_) ?_
      · go_simp
        exact loose_freshPtr hW.size
      simp only [Act.put, List.setIfInBounds_toArray, List.set_cons_zero, List.set_cons_succ, List.nil_append, List.cons_append, Nat.reduceAdd, Leaves.at]
      refine told_nil ?_
      intro vs W hW hok hap
      dsimp only
      obtain ⟨Y, ny, cy, e1, hY⟩ := hok 1 _ rfl rfl
      obtain ⟨⟨q, e4, hq, kq⟩, -⟩ := hok 2 _ rfl rfl
      rw [e1, e4]
      have HWq := hid hW
      have HY := hid hY
      have KQ := hid kq
      obtain ⟨⟨z1, z2⟩, z3, z4⟩ := label_zero kq
      clear hok hap hW hY kq e1 e4
      go_wp2_with (refine wp_list_told 4 4 nil_ rfl (by decide) ?_)
      obtain ⟨Wq, hwq, K2, BWq⟩ := put1 KQ.out (.int .i64 d0) (.slice Y ny cy)
      rw [hwq]
      have hs := HWq.out.size
      have hs2 := BWq.size
      have HY2 := hid ((HY.out.keep (Nat.le_refl _) BWq fun g hg => by subst hg; exact bare26 KQ.out).more hs2)
      have HBq : Hid (Below w4.heap.size w4 Wq) := BWq.done (since_below HWq.out (Nat.le_refl _)) (fun k hk => by subst hk; omega) hs
      have H04 := hid ((H02.out.since_ HW4.out))
      have H05 := hid ((H04.out.below HBq.out).more HBq.out.size)
      have HP13 := hid ((HP12.out.below (since_below HW4.out (Nat.le_refl _)) HP12.out.lt).below HBq.out (Nat.lt_of_lt_of_le HP12.out.lt HW4.out.size))
      have HB5 := hid (HB4.out.trans (HBq.out.mono HB4.out.size))
      have K2 := hid K2
      clear hwq BWq hs hs2 z1 z2 z3 z4
      have HF5 : Hid (∀ W, But nil_ Wq W → (W.cell? ⟨w.heap.size, 0, none⟩ = some (.int .i64 d0) ∧ W.cell? ⟨w.heap.size, 1, none⟩ = some (.slice A0 n0 c0)) ∧ (W.cell? ⟨q, 0, none⟩ = some (.int .i64 d0) ∧ W.cell? ⟨q, 1, none⟩ = some (.slice Y ny cy))) := by
        intro W hW
        exact ⟨(hW.blk HP13.out (fun h => h)).cells2, (hW.blk K2.out (fun h => h)).cells2⟩
      simp only [List.take_succ_cons, List.take_zero, List.drop_succ_cons, List.drop_zero]
      repeat (refine told_val (v := ?_) (fun _ => rfl) (fun vs W hW => ?_) ?_; rotate_left; (focus (have hf := HF5.out W hW; clear hW; go_simp; exact loose_val)); simp only [Act.put, List.setIfInBounds_toArray, List.set_cons_zero, List.set_cons_succ, List.nil_append, List.cons_append, Nat.reduceAdd, Leaves.at])
      refine told_val (v := .int .i64 lv) (fun _ => rfl) (fun vs W hW => ?_) ?_
      · go_simp
        exact loose_call (by have := level_b W d0 Y ny cy rl a2 (HY2.out.since_ hW); rw [HUP.out] at this; exact this)
      simp only [Act.put, List.setIfInBounds_toArray, List.set_cons_zero, List.set_cons_succ, List.nil_append, List.cons_append, Nat.reduceAdd, Leaves.at]
      repeat (refine told_val (v := ?_) (fun _ => rfl) (fun vs W hW => ?_) ?_; rotate_left; (focus (have hf := HF5.out W hW; clear hW; go_simp; exact loose_val)); simp only [Act.put, List.setIfInBounds_toArray, List.set_cons_zero, List.set_cons_succ, List.nil_append, List.cons_append, Nat.reduceAdd, Leaves.at])
      refine told_nil ?_
      intro vs W6 hW6 hok hap
      clear hap
      dsimp only
      have HW6 := hid hW6
      have HF6 := hid (fun W (hW : But nil_ W6 W) => HF5.out W (HW6.out.trans hW))
      have HB6 := hid (HB5.out.trans (since_below hW6 HB5.out.size))
      clear hok hW6
      have HLW := hid (fun W (hW : But nil_ W6 W) => level_b W d0 A0 n0 c0 l0 a2 (H05.out.since_ (HW6.out.trans hW)))
      rw [HV.out] at HLW
      go_wp2_with fail
      refine wp_region_told 30 nil_ mixed (by kernel_rfl) ?_
      simp only [List.take_succ_cons, List.take_zero, List.drop_succ_cons, List.drop_zero]
      repeat (refine told_val (v := ?_) (fun _ => rfl) (fun vs W hW => ?_) ?_; rotate_left; (focus (have hf := HF6.out W hW; clear hW; go_simp; exact loose_val)); simp only [Act.put, List.setIfInBounds_toArray, List.set_cons_zero, List.set_cons_succ, List.nil_append, List.cons_append, Nat.reduceAdd, Leaves.at])
      refine told_rel (LabR d0 ll) LabR.stable (fun _ => rfl) (fun vs W hW hd => ?_) ?_
      · clear hd
        go_simp
        exact loose_callR (HLO.out W _ _ _ (HY2.out.since_ (HW6.out.trans hW)))
      simp only [Act.put, List.setIfInBounds_toArray, List.set_cons_zero, List.set_cons_succ, List.nil_append, List.cons_append, Nat.reduceAdd, Leaves.at]
      repeat (refine told_val (v := ?_) (fun _ => rfl) (fun vs W hW => ?_) ?_; rotate_left; (focus (have hf := HF6.out W hW; clear hW; go_simp; exact loose_val)); simp only [Act.put, List.setIfInBounds_toArray, List.set_cons_zero, List.set_cons_succ, List.nil_append, List.cons_append, Nat.reduceAdd, Leaves.at])
      refine told_val' (v := .bool true) (fun _ => rfl) (fun vs W hW hd => ?_) ?_
      · obtain ⟨P1, m1, k1, e1, hT1⟩ := hd ⟨1, .data⟩ (by simp) rfl _ rfl (fun h => by cases h)
        clear hd
        go_simp
        exact loose_call (by rw [← HSM.out]; exact same42 W _ _ P1 A0 m1 k1 n0 c0 _ _ hT1 (H05.out.since_ (HW6.out.trans hW)))
      simp only [Act.put, List.setIfInBounds_toArray, List.set_cons_zero, List.set_cons_succ, List.nil_append, List.cons_append, Nat.reduceAdd, Leaves.at]
      repeat (refine told_val (v := ?_) (fun _ => rfl) (fun vs W hW => ?_) ?_; rotate_left; (focus (have hf := HF6.out W hW; clear hW; go_simp; exact loose_val)); simp only [Act.put, List.setIfInBounds_toArray, List.set_cons_zero, List.set_cons_succ, List.nil_append, List.cons_append, Nat.reduceAdd, Leaves.at])
      refine told_val (v := .bool true) (fun _ => rfl) (fun vs W hW => ?_) ?_
      · go_simp
        exact loose_call (by rw [← HLE.out]; exact leq40 W _ _ A0 Y n0 c0 ny cy _ _ (H05.out.since_ (HW6.out.trans hW)) (HY2.out.since_ (HW6.out.trans hW)))
      simp only [Act.put, List.setIfInBounds_toArray, List.set_cons_zero, List.set_cons_succ, List.nil_append, List.cons_append, Nat.reduceAdd, Leaves.at]
      repeat (refine told_val (v := ?_) (fun _ => rfl) (fun vs W hW => ?_) ?_; rotate_left; (focus (have hf := HF6.out W hW; clear hW; go_simp; exact loose_val)); simp only [Act.put, List.setIfInBounds_toArray, List.set_cons_zero, List.set_cons_succ, List.nil_append, List.cons_append, Nat.reduceAdd, Leaves.at])
      refine told_val (v := .int .i64 lv) (fun _ => rfl) (fun vs W hW => ?_) ?_
      · go_simp
        exact loose_call (HLW.out W hW)
      simp only [Act.put, List.setIfInBounds_toArray, List.set_cons_zero, List.set_cons_succ, List.nil_append, List.cons_append, Nat.reduceAdd, Leaves.at]
      repeat (first | (refine told_off (fun _ => rfl) ?_; simp only [Act.put, List.setIfInBounds_toArray, List.set_cons_zero, List.set_cons_succ, List.nil_append, List.cons_append, Nat.reduceAdd, Leaves.at]) | (refine told_val (v := ?_) (fun _ => rfl) (fun vs W hW => ?_) ?_; rotate_left; (focus (have hf := HF6.out W hW; clear hW; go_simp; exact loose_val)); simp only [Act.put, List.setIfInBounds_toArray, List.set_cons_zero, List.set_cons_succ, List.nil_append, List.cons_append, Nat.reduceAdd, Leaves.at]))
      refine told_val (v := .int .i64 lv) (fun _ => rfl) (fun vs W hW => ?_) ?_
      · go_simp
        exact loose_call (HLW.out W hW)
      simp only [Act.put, List.setIfInBounds_toArray, List.set_cons_zero, List.set_cons_succ, List.nil_append, List.cons_append, Nat.reduceAdd, Leaves.at]
      repeat (first | (refine told_off (fun _ => rfl) ?_; simp only [Act.put, List.setIfInBounds_toArray, List.set_cons_zero, List.set_cons_succ, List.nil_append, List.cons_append, Nat.reduceAdd, Leaves.at]) | (refine told_val (v := ?_) (fun _ => rfl) (fun vs W hW => ?_) ?_; rotate_left; (focus (have hf := HF6.out W hW; clear hW; go_simp; exact loose_val)); simp only [Act.put, List.setIfInBounds_toArray, List.set_cons_zero, List.set_cons_succ, List.nil_append, List.cons_append, Nat.reduceAdd, Leaves.at]))
      refine told_nil ?_
      intro vs W7 hW7 hok hap
      clear hap
      dsimp only
      have HB7 := hid (HB6.out.trans (since_below hW7 HB6.out.size))
      clear hok hW7
      go_wp2_with fail
      go_ret
      exact ⟨rfl, HB7.out⟩
  · have hr : rightB d0 l0 = false := by simpa using hr
    rw [hr]
    go_wp2_with fail
    go_ret
    exact ⟨rfl, HB4.out⟩

theorem fits {H : Type} : ∀ ds : List (DataW H), ds.length = Try.f9.params.toList.length → Rows.labelOwnsSpec.fn H ds = { results := [.lit (.bool true)], args := ds } := by
  intro ds h
  rw [Try.params9] at h
  match ds, h with
  | [e0, e1, e2], _ => rfl

set_option maxRecDepth 100000 in
theorem lifted (os : Os) (started : os.Started) (H : Type) (enc : TypeId × Value → H) :
    ReturnsInHanded {} Try.checked os 9 .any (Rows.labelOwnsSpec.pre6 enc Try.prog Try.f9 Rows.labelOwnsRow.domain false) (Rows.labelOwnsSpec.post enc Try.prog Try.f9 false true false false) := by
  refine returnsInHanded_of_change_sized (C := Try.checked) own started (by kernel_rfl) Try.func9
    (ChangeSpec.witness6 (enc := enc) (C := Try.checked) false ⟨#[], #[.agg #[.int .i64 0, .slice none 0 0], .agg #[.int .u64 0, .int .i64 0], .int .u64 0], []⟩ 8 (by kernel_rfl) (by kernel_rfl) (by kernel_rfl) (by kernel_rfl)) ?_
  intro W base args ds gs before hval0 hW hcnd hsz0 _
  have hval : ∀ (j : Nat) t v, Try.f9.params[j]? = some t → args[j]? = some v → Value.okWide Try.prog W .any base t v := hval0
  have hsz : (DataW.weightsEach Try.prog (Try.f9.params.toList ++ []) (ds ++ gs)).all (· ≤ reachBytes) = true := hsz0
  rw [Try.params9] at hsz
  have hpost : ∀ W', Below W.heap.size W W' → Rows.labelOwnsSpec.post enc Try.prog Try.f9 false true false false W args (.bool true) W' := fun W' hb =>
    law_post rfl rfl Try.underlying4 laidOut (by kernel_rfl) fits hW hb
  obtain ⟨p, q, hA0, hV, rfl, hfz, hnd⟩ := hW
  have hA : DataW.TrodAll enc Try.prog W 0 (fun _ => true) true Try.f9.params.toList args.toList ds p := hA0
  rw [Try.params9] at hA hval
  obtain ⟨rfl, rfl⟩ := trodVars_none hV
  obtain ⟨v0, vs0, dd0, ds0, p0, q0, hargs, rfl, rfl, h0, r0⟩ := trodAll_cons hA
  obtain ⟨v1, vs1, dd1, ds1, p1, q1, rfl, rfl, rfl, h1, r1⟩ := trodAll_cons r0
  obtain ⟨v2, vs2, dd2, ds2, p2, q2, rfl, rfl, rfl, h2, r2⟩ := trodAll_cons r1
  obtain ⟨rfl, rfl, rfl⟩ := trodAll_nil r2
  obtain rfl : args = #[v0, v1, v2] := by cases args; simp_all
  have fit0 : Fits 26 dd0 := Fits.of_all hsz (j := 0) rfl rfl
  obtain ⟨d0, A0, n0, c0, l0, rfl, T0, F0, B0⟩ := open_label (hval 0 26 v0 rfl rfl) h0
  obtain ⟨a1, b1, rfl, X1, Y1⟩ := open_cat (hval 1 32 v1 rfl rfl) h1
  obtain ⟨a2, rfl, rfl, rfl, w2⟩ := open_int Try.underlying24 (hval 2 24 v2 rfl rfl) h2
  refine (walk d0 A0 n0 c0 l0 a1 b1 a2 W T0 X1 Y1 (by simpa [Lit.wf, IntKind.min, IntKind.max, IntKind.signed, IntKind.bits] using w2) (F0 fit0)).mono fun e W' ⟨he, hg⟩ => ?_
  subst he
  exact ⟨_, rfl, hpost W' hg⟩

theorem closed : joinedFacts Try.prog 9 Try.f9 Rows.labelOwnsSpec Rows.labelOwnsRow = true := by
  unfold joinedFacts
  rw [enters, finals, made]
  kernel_rfl

theorem over : Rows.labelOwnsRow.holds Try.pinned (OpenSpec.ofChange Rows.labelOwnsSpec) :=
  OpenClaim.holds_of_wide 9 Try.f9 rfl rfl rfl rfl rfl rfl rfl ⟨rfl, rfl, rfl, rfl, rfl⟩ rfl rfl rfl rfl rfl (by kernel_rfl) Try.func9 closed
    (of_decide_eq_true (by kernel_rfl)) (by unfold Func.isWrapper; rw [if_neg (by decide +kernel)]; exact ⟨rfl, rfl⟩)
    (fun os started H enc _ => lifted os started H enc)

theorem proved : Rows.LabelOwnsSaid := over
end Go.Proofs.Ytndohmimcbmhdaa.lawLabelOwns
