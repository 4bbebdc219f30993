/-
  LabelRights: called with any values of its parameters, the law answers true, and of what lay in memory nothing has turned. No condition.
-/
import Derived.Test.YtndohmimcbmhdaaRows
import Derived.Test.YtndohmimcbmhdaaFrame
import Derived.Test.YtndohmimcbmhdaaHead
import Derived.Test.YtndohmimcbmhdaaOp
import Derived.Test.YtndohmimcbmhdaaRd
set_option linter.unusedVariables false
set_option linter.unusedSimpArgs false
namespace Go.Proofs.Ytndohmimcbmhdaa.lawLabelRights
open Go.ChangeShapes Go.WideShapes Go.ChangeAt Go.RowKit Go.Sort

theorem own : ownKnob Try.prog.godebug = none := by kernel_rfl
theorem laidOut : laidOutB Try.prog = true := by kernel_rfl


set_option maxHeartbeats 4000000 in
set_option maxRecDepth 100000 in
theorem walk (d0 : Int) (A0 : Option Addr) (n0 : Nat) (c0 : Nat) (l0 : List (Int × Int)) (w : World) (t0 : CatsAt w w.heap.size A0 n0 c0 l0) (z0 : n0 ≤ 8796093022207) :
    Calls Try.prog 8 #[.agg #[.int .i64 d0, .slice A0 n0 c0]] w fun e w' => e = .returned (.bool true) ∧ Below w.heap.size w w' := by
  have mixed : Try.prog.follows .mixedOrders = true := by kernel_rfl
  have HB : Hid (Below w.heap.size w (w.alloc (.cells #[.int .i64 d0, .slice A0 n0 c0] 26))) := (Below.refl _ w).alloc (Nat.le_refl _) _
  have HP1 : Hid (Blk (w.alloc (.cells #[.int .i64 d0, .slice A0 n0 c0] 26)) w.heap.size 26 #[.int .i64 d0, .slice A0 n0 c0]) := Blk.new w 26 _
  have HC := hid ((t0.below HB.out).more HB.out.size)
  have hr0 : rightB 2 [] = true := by decide
  have HR0 := hid hr0
  clear t0 hr0
  go_enter Try.func8, Try.ntmps8
  go_wp2_with fail
  generalize w.alloc (.cells #[.int .i64 d0, .slice A0 n0 c0] 26) = wa at *
  have HF : Hid (∀ W, But nil_ wa W → W.cell? ⟨w.heap.size, 0, none⟩ = some (.int .i64 d0) ∧ W.cell? ⟨w.heap.size, 1, none⟩ = some (.slice A0 n0 c0)) := by
    intro W hW
    have r := hW.blk HP1.out (fun h => h)
    exact ⟨(Blk.cell r 0).trans rfl, (Blk.cell r 1).trans rfl⟩
  refine wp_region_told 14 nil_ mixed (by kernel_rfl) ?_
  simp only [List.take_succ_cons, List.take_zero, List.drop_succ_cons, List.drop_zero]
  refine told_val (v := .bool true) (fun _ => rfl) (fun vs W hW => ?_) ?_
  · go_simp
    exact loose_call (alive33 W)
  simp only [Act.put, List.setIfInBounds_toArray, List.set_cons_zero, List.set_cons_succ, List.nil_append, List.cons_append, Nat.reduceAdd, Leaves.at]
  repeat (refine told_val (v := ?_) (fun _ => rfl) (fun vs W hW => ?_) ?_; rotate_left; (focus (have hf := HF.out W hW; clear hW; go_simp; exact loose_val)); simp only [Act.put, List.setIfInBounds_toArray, List.set_cons_zero, List.set_cons_succ, List.nil_append, List.cons_append, Nat.reduceAdd, Leaves.at])
  refine told_val (v := .bool true) (fun _ => rfl) (fun vs W hW => ?_) ?_
  · go_simp
    exact loose_call (by have := right51 W 2 none 0 0 [] CatsAt.nil_; rw [HR0.out] at this; exact this)
  simp only [Act.put, List.setIfInBounds_toArray, List.set_cons_zero, List.set_cons_succ, List.nil_append, List.cons_append, Nat.reduceAdd, Leaves.at]
  repeat (refine told_val (v := ?_) (fun _ => rfl) (fun vs W hW => ?_) ?_; rotate_left; (focus (have hf := HF.out W hW; clear hW; go_simp; exact loose_val)); simp only [Act.put, List.setIfInBounds_toArray, List.set_cons_zero, List.set_cons_succ, List.nil_append, List.cons_append, Nat.reduceAdd, Leaves.at])
  refine told_rel (LabR d0 l0) LabR.stable (fun _ => rfl) (fun vs W hW hd => ?_) ?_
  · clear hd
    go_simp
    exact loose_callR ((copy39 W d0 A0 n0 c0 l0 (HC.out.since_ hW) (by omega)).mono fun _ _ h => h.lab)
  simp only [Act.put, List.setIfInBounds_toArray, List.set_cons_zero, List.set_cons_succ, List.nil_append, List.cons_append, Nat.reduceAdd, Leaves.at]
  refine told_val' (v := .bool (rightB d0 l0)) (fun _ => rfl) (fun vs W hW hd => ?_) ?_
  · obtain ⟨A1, n1, c1, e1, hT1⟩ := hd ⟨7, .data⟩ (by simp) rfl _ rfl (fun h => by cases h)
    clear hd
    go_simp
    exact loose_call (right51 W d0 A1 n1 c1 l0 hT1)
  simp only [Act.put, List.setIfInBounds_toArray, List.set_cons_zero, List.set_cons_succ, List.nil_append, List.cons_append, Nat.reduceAdd, Leaves.at]
  repeat (refine told_val (v := ?_) (fun _ => rfl) (fun vs W hW => ?_) ?_; rotate_left; (focus (have hf := HF.out W hW; clear hW; go_simp; exact loose_val)); simp only [Act.put, List.setIfInBounds_toArray, List.set_cons_zero, List.set_cons_succ, List.nil_append, List.cons_append, Nat.reduceAdd, Leaves.at])
  refine told_val (v := .bool (rightB d0 l0)) (fun _ => rfl) (fun vs W hW => ?_) ?_
  · go_simp
    exact loose_call (right52 W d0 A0 n0 c0 l0 (HC.out.since_ hW))
  simp only [Act.put, List.setIfInBounds_toArray, List.set_cons_zero, List.set_cons_succ, List.nil_append, List.cons_append, Nat.reduceAdd, Leaves.at]
  generalize rightB d0 l0 = q
  repeat (refine told_val (v := ?_) (fun _ => rfl) (fun vs W hW => ?_) ?_; rotate_left; (focus (have hf := HF.out W hW; clear hW; go_simp; exact loose_val)); simp only [Act.put, List.setIfInBounds_toArray, List.set_cons_zero, List.set_cons_succ, List.nil_append, List.cons_append, Nat.reduceAdd, Leaves.at])
  refine told_nil ?_
  intro vs W hW hok hap
  clear hap
  dsimp only
  have HB2 := hid (HB.out.trans (since_below hW HB.out.size))
  clear hok hW
  go_wp2_with fail
  go_ret
  exact ⟨rfl, HB2.out⟩

theorem fits {H : Type} : ∀ ds : List (DataW H), ds.length = Try.f8.params.toList.length → Rows.labelRightsSpec.fn H ds = { results := [.lit (.bool true)], args := ds } := by
  intro ds h
  rw [Try.params8] at h
  match ds, h with
  | [e0], _ => rfl

set_option maxRecDepth 100000 in
theorem lifted (os : Os) (started : os.Started) (H : Type) (enc : TypeId × Value → H) :
    ReturnsInHanded {} Try.checked os 8 .any (Rows.labelRightsSpec.pre6 enc Try.prog Try.f8 Rows.labelRightsRow.domain false) (Rows.labelRightsSpec.post enc Try.prog Try.f8 false true false false) := by
  refine returnsInHanded_of_change_sized (C := Try.checked) own started (by kernel_rfl) Try.func8
    (ChangeSpec.witness6 (enc := enc) (C := Try.checked) false ⟨#[], #[.agg #[.int .i64 0, .slice none 0 0]], []⟩ 8 (by kernel_rfl) (by kernel_rfl) (by kernel_rfl) (by kernel_rfl)) ?_
  intro W base args ds gs before hval0 hW hcnd hsz0 _
  have hval : ∀ (j : Nat) t v, Try.f8.params[j]? = some t → args[j]? = some v → Value.okWide Try.prog W .any base t v := hval0
  have hsz : (DataW.weightsEach Try.prog (Try.f8.params.toList ++ []) (ds ++ gs)).all (· ≤ reachBytes) = true := hsz0
  rw [Try.params8] at hsz
  have hpost : ∀ W', Below W.heap.size W W' → Rows.labelRightsSpec.post enc Try.prog Try.f8 false true false false W args (.bool true) W' := fun W' hb =>
    law_post rfl rfl Try.underlying4 laidOut (by kernel_rfl) fits hW hb
  obtain ⟨p, q, hA0, hV, rfl, hfz, hnd⟩ := hW
  have hA : DataW.TrodAll enc Try.prog W 0 (fun _ => true) true Try.f8.params.toList args.toList ds p := hA0
  rw [Try.params8] at hA hval
  obtain ⟨rfl, rfl⟩ := trodVars_none hV
  obtain ⟨v0, vs0, dd0, ds0, p0, q0, hargs, rfl, rfl, h0, r0⟩ := trodAll_cons hA
  obtain ⟨rfl, rfl, rfl⟩ := trodAll_nil r0
  obtain rfl : args = #[v0] := by cases args; simp_all
  have fit0 : Fits 26 dd0 := Fits.of_all hsz (j := 0) rfl rfl
  obtain ⟨d0, A0, n0, c0, l0, rfl, T0, F0, B0⟩ := open_label (hval 0 26 v0 rfl rfl) h0
  refine (walk d0 A0 n0 c0 l0 W T0 (F0 fit0)).mono fun e W' ⟨he, hg⟩ => ?_
  subst he
  exact ⟨_, rfl, hpost W' hg⟩

theorem closed : joinedFacts Try.prog 8 Try.f8 Rows.labelRightsSpec Rows.labelRightsRow = true := by
  unfold joinedFacts
  rw [enters, finals, made]
  kernel_rfl

theorem over : Rows.labelRightsRow.holds Try.pinned (OpenSpec.ofChange Rows.labelRightsSpec) :=
  OpenClaim.holds_of_wide 8 Try.f8 rfl rfl rfl rfl rfl rfl rfl ⟨rfl, rfl, rfl, rfl, rfl⟩ rfl rfl rfl rfl rfl (by kernel_rfl) Try.func8 closed
    (of_decide_eq_true (by kernel_rfl)) (by unfold Func.isWrapper; rw [if_neg (by decide +kernel)]; exact ⟨rfl, rfl⟩)
    (fun os started H enc _ => lifted os started H enc)

theorem proved : Rows.LabelRightsSaid := over
end Go.Proofs.Ytndohmimcbmhdaa.lawLabelRights
