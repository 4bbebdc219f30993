/-
  SpaceNames: called with any values of its parameters, the law answers true, and of what lay in memory nothing has turned. No condition.
-/
import Derived.Test.YtndohmimcbmhdaaRows
import Derived.Test.YtndohmimcbmhdaaMz0
import Derived.Test.YtndohmimcbmhdaaMz2
import Derived.Test.YtndohmimcbmhdaaMz24
set_option linter.unusedVariables false
set_option linter.unusedSimpArgs false
namespace Go.Proofs.Ytndohmimcbmhdaa.lawSpaceNames
open Go.ChangeShapes Go.WideShapes Go.ChangeAt Go.RowKit Go.Sort

theorem own : ownKnob Try.prog.godebug = none := by kernel_rfl
theorem laidOut : laidOutB Try.prog = true := by kernel_rfl


set_option maxHeartbeats 4000000 in
set_option maxRecDepth 100000 in
theorem walk (w : World) :
    Calls Try.prog 17 #[] w fun e w' => e = .returned (.bool true) ∧ Below w.heap.size w w' := by
  have HWV : Hid (whereV emptyT 0 = .tuple #[.agg #[.int .u64 0, .int .u64 0], .int .i64 0, .int .i64 172]) := by show _ = _; rfl
  go_enter Try.func17, Try.ntmps17
  go_wp2_with (first
    | (go_at_call 69
       refine (empty69_e _).mono ?_
       rintro e w1 ⟨rfl, hb1⟩
       have HB1 := hid hb1
       clear hb1)
    | (go_at_call 68
       refine (where68 w1 emptyT 0).mono ?_
       rw [HWV.out]
       rintro e w2 ⟨rfl, hb2⟩
       have HB2 := hid (HB1.out.trans (hb2.mono HB1.out.size))
       clear hb2)
    | (go_at_call 70
       refine (alive70 _).mono ?_
       rintro e w3 ⟨rfl, hb3⟩
       have HB3 := hid ((HB2.out.alloc HB2.out.size (.cells #[.int .u64 0, .int .u64 0] 52)).trans (hb3.mono (by have := HB2.out.size; simp; omega)))
       clear hb3))
  go_ret
  exact ⟨rfl, HB3.out⟩

theorem fits {H : Type} : ∀ ds : List (DataW H), ds.length = Try.f17.params.toList.length → Rows.spaceNamesSpec.fn H ds = { results := [.lit (.bool true)], args := ds } := by
  intro ds h
  rw [Try.params17] at h
  match ds, h with
  | [], _ => rfl

set_option maxRecDepth 100000 in
theorem lifted (os : Os) (started : os.Started) (H : Type) (enc : TypeId × Value → H) :
    ReturnsInHanded {} Try.checked os 17 .any (Rows.spaceNamesSpec.pre6 enc Try.prog Try.f17 Rows.spaceNamesRow.domain false) (Rows.spaceNamesSpec.post enc Try.prog Try.f17 false true false false) := by
  refine returnsInHanded_of_change_sized (C := Try.checked) own started (by kernel_rfl) Try.func17
    (ChangeSpec.witness6 (enc := enc) (C := Try.checked) false ⟨#[], #[], []⟩ 8 (by kernel_rfl) (by kernel_rfl) (by kernel_rfl) (by kernel_rfl)) ?_
  intro W base args ds gs before hval0 hW hcnd hsz0 _
  have hval : ∀ (j : Nat) t v, Try.f17.params[j]? = some t → args[j]? = some v → Value.okWide Try.prog W .any base t v := hval0
  have hpost : ∀ W', Below W.heap.size W W' → Rows.spaceNamesSpec.post enc Try.prog Try.f17 false true false false W args (.bool true) W' := fun W' hb =>
    law_post rfl rfl Try.underlying4 laidOut (by kernel_rfl) fits hW hb
  obtain ⟨p, q, hA0, hV, rfl, hfz, hnd⟩ := hW
  have hA : DataW.TrodAll enc Try.prog W 0 (fun _ => true) true Try.f17.params.toList args.toList ds p := hA0
  rw [Try.params17] at hA hval
  obtain ⟨rfl, rfl⟩ := trodVars_none hV
  obtain ⟨rfl, rfl, rfl⟩ := trodAll_none hA
  refine (walk W).mono fun e W' ⟨he, hg⟩ => ?_
  subst he
  exact ⟨_, rfl, hpost W' hg⟩

theorem closed : joinedFacts Try.prog 17 Try.f17 Rows.spaceNamesSpec Rows.spaceNamesRow = true := by
  unfold joinedFacts
  rw [enters, finals, made]
  kernel_rfl

theorem over : Rows.spaceNamesRow.holds Try.pinned (OpenSpec.ofChange Rows.spaceNamesSpec) :=
  OpenClaim.holds_of_wide 17 Try.f17 rfl rfl rfl rfl rfl rfl rfl ⟨rfl, rfl, rfl, rfl, rfl⟩ rfl rfl rfl rfl rfl (by kernel_rfl) Try.func17 closed
    (of_decide_eq_true (by kernel_rfl)) (by unfold Func.isWrapper; rw [if_neg (by decide +kernel)]; exact ⟨rfl, rfl⟩)
    (fun os started H enc _ => lifted os started H enc)

theorem proved : Rows.SpaceNamesSaid := over
end Go.Proofs.Ytndohmimcbmhdaa.lawSpaceNames
