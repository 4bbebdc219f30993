/-
  FlowMakes: called with any values of its parameters, the law answers true, and of what lay in memory nothing has turned. No condition.
-/
import Derived.Test.YtndohmimcbmhdaaRows
import Derived.Test.YtndohmimcbmhdaaFrame
import Derived.Test.YtndohmimcbmhdaaHead
import Derived.Test.YtndohmimcbmhdaaOp
import Derived.Test.YtndohmimcbmhdaaFc
import Derived.Test.YtndohmimcbmhdaaFh
set_option linter.unusedVariables false
set_option linter.unusedSimpArgs false
namespace Go.Proofs.Ytndohmimcbmhdaa.lawFlowMakes
open Go.ChangeShapes Go.WideShapes Go.ChangeAt Go.RowKit Go.Sort

theorem own : ownKnob Try.prog.godebug = none := by kernel_rfl
theorem laidOut : laidOutB Try.prog = true := by kernel_rfl


set_option maxHeartbeats 4000000 in
set_option maxRecDepth 100000 in
theorem walk (d0 : Int) (A0 : Option Addr) (n0 : Nat) (c0 : Nat) (l0 : List (Int × Int)) (e0 : Int) (E0 : Option Addr) (m0 : Nat) (k0 : Nat) (r0 : List (Int × Int)) (d1 : Int) (A1 : Option Addr) (n1 : Nat) (c1 : Nat) (l1 : List (Int × Int)) (d2 : Int) (A2 : Option Addr) (n2 : Nat) (c2 : Nat) (l2 : List (Int × Int)) (w : World) (t0 : CatsAt w w.heap.size A0 n0 c0 l0) (u0 : CatsAt w w.heap.size E0 m0 k0 r0) (t1 : CatsAt w w.heap.size A1 n1 c1 l1) (t2 : CatsAt w w.heap.size A2 n2 c2 l2) (z0 : n0 ≤ 8796093022207) (y0 : m0 ≤ 8796093022207) (z1 : n1 ≤ 8796093022207) (z2 : n2 ≤ 8796093022207) :
    Calls Try.prog 13 #[.agg #[.int .i64 d0, .slice A0 n0 c0, .int .i64 e0, .slice E0 m0 k0], .agg #[.int .i64 d1, .slice A1 n1 c1], .agg #[.int .i64 d2, .slice A2 n2 c2]] w fun e w' => e = .returned (.bool true) ∧ Below w.heap.size w w' := by
  have mixed : Try.prog.follows .mixedOrders = true := by kernel_rfl
  obtain ⟨q1, q2, q3, q4⟩ := three_blk w #[.int .i64 d0, .slice A0 n0 c0, .int .i64 e0, .slice E0 m0 k0] #[.int .i64 d1, .slice A1 n1 c1] #[.int .i64 d2, .slice A2 n2 c2] 43 26 26
  have HB := hid q1
  have HP0 := hid q2
  have HP1 := hid q3
  have HP2 := hid q4
  have H0 := hid ((t0.below q1).more q1.size)
  have G0 := hid ((u0.below q1).more q1.size)
  have H1 := hid ((t1.below q1).more q1.size)
  have H2 := hid ((t2.below q1).more q1.size)
  clear t0 u0 t1 t2 q1 q2 q3 q4
  go_enter Try.func13, Try.ntmps13
  go_wp2_with fail
  generalize ((w.alloc (.cells #[.int .i64 d0, .slice A0 n0 c0, .int .i64 e0, .slice E0 m0 k0] 43)).alloc (.cells #[.int .i64 d1, .slice A1 n1 c1] 26)).alloc (.cells #[.int .i64 d2, .slice A2 n2 c2] 26) = wa at *
  have HF : Hid (∀ W, But nil_ wa W → (W.cell? ⟨w.heap.size, 0, none⟩ = some (.int .i64 d0) ∧ W.cell? ⟨w.heap.size, 1, none⟩ = some (.slice A0 n0 c0) ∧ W.cell? ⟨w.heap.size, 2, none⟩ = some (.int .i64 e0) ∧ W.cell? ⟨w.heap.size, 3, none⟩ = some (.slice E0 m0 k0)) ∧ (W.cell? ⟨w.heap.size + 1, 0, none⟩ = some (.int .i64 d1) ∧ W.cell? ⟨w.heap.size + 1, 1, none⟩ = some (.slice A1 n1 c1)) ∧ (W.cell? ⟨w.heap.size + 1 + 1, 0, none⟩ = some (.int .i64 d2) ∧ W.cell? ⟨w.heap.size + 1 + 1, 1, none⟩ = some (.slice A2 n2 c2))) := fun W hW => ⟨(hW.blk HP0.out (fun h => h)).cells4, (hW.blk HP1.out (fun h => h)).cells2, (hW.blk HP2.out (fun h => h)).cells2⟩
  have HX := hid (fun W (hW : But nil_ wa W) => f58v W d0 A0 n0 c0 l0 e0 E0 m0 k0 r0 d1 A1 n1 c1 l1 (H0.out.since_ hW) (by omega) (G0.out.since_ hW) (by omega) (H1.out.since_ hW) (by omega))
  have HY := hid (fun W (hW : But nil_ wa W) => f59v W d0 A0 n0 c0 l0 e0 E0 m0 k0 r0 d1 A1 n1 c1 l1 (H0.out.since_ hW) (by omega) (G0.out.since_ hW) (by omega) (H1.out.since_ hW) (by omega))
  have HZ := hid (fun W (hW : But nil_ wa W) => f60v W d0 A0 n0 c0 l0 e0 E0 m0 k0 r0 d1 A1 n1 c1 l1 d2 A2 n2 c2 l2 (H0.out.since_ hW) (by omega) (G0.out.since_ hW) (by omega) (H1.out.since_ hW) (by omega) (H2.out.since_ hW) (by omega))
  have HT := hid (fun W (hW : But nil_ wa W) => f61v W d0 A0 n0 c0 l0 e0 E0 m0 k0 r0 d1 A1 n1 c1 l1 d2 A2 n2 c2 l2 (H0.out.since_ hW) (by omega) (G0.out.since_ hW) (by omega) (H1.out.since_ hW) (by omega) (H2.out.since_ hW) (by omega))
  generalize makesB d0 l0 e0 r0 d1 l1 = q at *
  generalize spawnsB d0 l0 e0 r0 d1 l1 d2 l2 = p at *
  refine wp_region_told 28 nil_ mixed (by kernel_rfl) ?_
  simp only [List.take_succ_cons, List.take_zero, List.drop_succ_cons, List.drop_zero]
  refine told_val (v := .bool true) (fun _ => rfl) (fun vs W hW => ?_) ?_
  · go_simp
    exact loose_call (alive53 W)
  simp only [Act.put, List.setIfInBounds_toArray, List.set_cons_zero, List.set_cons_succ, List.nil_append, List.cons_append, Nat.reduceAdd, Leaves.at]
  repeat (refine told_val (v := ?_) (fun _ => rfl) (fun vs W hW => ?_) ?_; rotate_left; (focus (have hf := HF.out W hW; clear hW; go_simp; exact loose_val)); simp only [Act.put, List.setIfInBounds_toArray, List.set_cons_zero, List.set_cons_succ, List.nil_append, List.cons_append, Nat.reduceAdd, Leaves.at])
  refine told_val (v := .bool q) (fun _ => rfl) (fun vs W hW => ?_) ?_
  · go_simp
    exact loose_call (HX.out W hW)
  simp only [Act.put, List.setIfInBounds_toArray, List.set_cons_zero, List.set_cons_succ, List.nil_append, List.cons_append, Nat.reduceAdd, Leaves.at]
  repeat (refine told_val (v := ?_) (fun _ => rfl) (fun vs W hW => ?_) ?_; rotate_left; (focus (have hf := HF.out W hW; clear hW; go_simp; exact loose_val)); simp only [Act.put, List.setIfInBounds_toArray, List.set_cons_zero, List.set_cons_succ, List.nil_append, List.cons_append, Nat.reduceAdd, Leaves.at])
  refine told_val (v := .bool q) (fun _ => rfl) (fun vs W hW => ?_) ?_
  · go_simp
    exact loose_call (HY.out W hW)
  simp only [Act.put, List.setIfInBounds_toArray, List.set_cons_zero, List.set_cons_succ, List.nil_append, List.cons_append, Nat.reduceAdd, Leaves.at]
  refine told_val' (v := .bool true) (fun _ => rfl) (fun vs W hW hd => ?_) ?_
  · go_simp; (first | exact loose_val | (cases q <;> exact loose_val))
  simp only [Act.put, List.setIfInBounds_toArray, List.set_cons_zero, List.set_cons_succ, List.nil_append, List.cons_append, Nat.reduceAdd, Leaves.at]
  repeat (refine told_val (v := ?_) (fun _ => rfl) (fun vs W hW => ?_) ?_; rotate_left; (focus (have hf := HF.out W hW; clear hW; go_simp; exact loose_val)); simp only [Act.put, List.setIfInBounds_toArray, List.set_cons_zero, List.set_cons_succ, List.nil_append, List.cons_append, Nat.reduceAdd, Leaves.at])
  refine told_val (v := .bool p) (fun _ => rfl) (fun vs W hW => ?_) ?_
  · go_simp
    exact loose_call (HZ.out W hW)
  simp only [Act.put, List.setIfInBounds_toArray, List.set_cons_zero, List.set_cons_succ, List.nil_append, List.cons_append, Nat.reduceAdd, Leaves.at]
  repeat (refine told_val (v := ?_) (fun _ => rfl) (fun vs W hW => ?_) ?_; rotate_left; (focus (have hf := HF.out W hW; clear hW; go_simp; exact loose_val)); simp only [Act.put, List.setIfInBounds_toArray, List.set_cons_zero, List.set_cons_succ, List.nil_append, List.cons_append, Nat.reduceAdd, Leaves.at])
  refine told_val (v := .bool p) (fun _ => rfl) (fun vs W hW => ?_) ?_
  · go_simp
    exact loose_call (HT.out W hW)
  simp only [Act.put, List.setIfInBounds_toArray, List.set_cons_zero, List.set_cons_succ, List.nil_append, List.cons_append, Nat.reduceAdd, Leaves.at]
  refine told_val' (v := .bool true) (fun _ => rfl) (fun vs W hW hd => ?_) ?_
  · go_simp; (first | exact loose_val | (cases p <;> exact loose_val))
  simp only [Act.put, List.setIfInBounds_toArray, List.set_cons_zero, List.set_cons_succ, List.nil_append, List.cons_append, Nat.reduceAdd, Leaves.at]
  repeat (refine told_val (v := ?_) (fun _ => rfl) (fun vs W hW => ?_) ?_; rotate_left; (focus (have hf := HF.out W hW; clear hW; go_simp; exact loose_val)); simp only [Act.put, List.setIfInBounds_toArray, List.set_cons_zero, List.set_cons_succ, List.nil_append, List.cons_append, Nat.reduceAdd, Leaves.at])
  refine told_nil ?_
  intro vs W hW hok hap
  clear hap
  dsimp only
  have HB2 := hid (HB.out.trans (since_below hW HB.out.size))
  clear hok hW
  go_wp2_with fail
  go_ret
  exact ⟨rfl, HB2.out⟩

theorem fits {H : Type} : ∀ ds : List (DataW H), ds.length = Try.f13.params.toList.length → Rows.flowMakesSpec.fn H ds = { results := [.lit (.bool true)], args := ds } := by
  intro ds h
  rw [Try.params13] at h
  match ds, h with
  | [e0, e1, e2], _ => rfl

set_option maxRecDepth 100000 in
theorem lifted (os : Os) (started : os.Started) (H : Type) (enc : TypeId × Value → H) :
    ReturnsInHanded {} Try.checked os 13 .any (Rows.flowMakesSpec.pre6 enc Try.prog Try.f13 Rows.flowMakesRow.domain false) (Rows.flowMakesSpec.post enc Try.prog Try.f13 false true false false) := by
  refine returnsInHanded_of_change_sized (C := Try.checked) own started (by kernel_rfl) Try.func13
    (ChangeSpec.witness6 (enc := enc) (C := Try.checked) false ⟨#[], #[.agg #[.int .i64 0, .slice none 0 0, .int .i64 0, .slice none 0 0], .agg #[.int .i64 0, .slice none 0 0], .agg #[.int .i64 0, .slice none 0 0]], []⟩ 8 (by kernel_rfl) (by kernel_rfl) (by kernel_rfl) (by kernel_rfl)) ?_
  intro W base args ds gs before hval0 hW hcnd hsz0 _
  have hval : ∀ (j : Nat) t v, Try.f13.params[j]? = some t → args[j]? = some v → Value.okWide Try.prog W .any base t v := hval0
  have hsz : (DataW.weightsEach Try.prog (Try.f13.params.toList ++ []) (ds ++ gs)).all (· ≤ reachBytes) = true := hsz0
  rw [Try.params13] at hsz
  have hpost : ∀ W', Below W.heap.size W W' → Rows.flowMakesSpec.post enc Try.prog Try.f13 false true false false W args (.bool true) W' := fun W' hb =>
    law_post rfl rfl Try.underlying4 laidOut (by kernel_rfl) fits hW hb
  obtain ⟨p, q, hA0, hV, rfl, hfz, hnd⟩ := hW
  have hA : DataW.TrodAll enc Try.prog W 0 (fun _ => true) true Try.f13.params.toList args.toList ds p := hA0
  rw [Try.params13] at hA hval
  obtain ⟨rfl, rfl⟩ := trodVars_none hV
  obtain ⟨v0, vs0, dd0, ds0, p0, q0, hargs, rfl, rfl, h0, hr0⟩ := trodAll_cons hA
  obtain ⟨v1, vs1, dd1, ds1, p1, q1, rfl, rfl, rfl, h1, hr1⟩ := trodAll_cons hr0
  obtain ⟨v2, vs2, dd2, ds2, p2, q2, rfl, rfl, rfl, h2, hr2⟩ := trodAll_cons hr1
  obtain ⟨rfl, rfl, rfl⟩ := trodAll_nil hr2
  obtain rfl : args = #[v0, v1, v2] := by cases args; simp_all
  have fit0 : Fits 43 dd0 := Fits.of_all hsz (j := 0) rfl rfl
  have fit1 : Fits 26 dd1 := Fits.of_all hsz (j := 1) rfl rfl
  have fit2 : Fits 26 dd2 := Fits.of_all hsz (j := 2) rfl rfl
  obtain ⟨d0, A0, n0, c0, l0, e0, E0, m0, k0, r0, rfl, T0, U0, F0, B0⟩ := open_who (hval 0 43 v0 rfl rfl) h0
  obtain ⟨d1, A1, n1, c1, l1, rfl, T1, F1, B1⟩ := open_label (hval 1 26 v1 rfl rfl) h1
  obtain ⟨d2, A2, n2, c2, l2, rfl, T2, F2, B2⟩ := open_label (hval 2 26 v2 rfl rfl) h2
  refine (walk d0 A0 n0 c0 l0 e0 E0 m0 k0 r0 d1 A1 n1 c1 l1 d2 A2 n2 c2 l2 W T0 U0 T1 T2 (F0 fit0).1 (F0 fit0).2 (F1 fit1) (F2 fit2)).mono fun e W' ⟨he, hg⟩ => ?_
  subst he
  exact ⟨_, rfl, hpost W' hg⟩

theorem closed : joinedFacts Try.prog 13 Try.f13 Rows.flowMakesSpec Rows.flowMakesRow = true := by
  unfold joinedFacts
  rw [enters, finals, made]
  kernel_rfl

theorem over : Rows.flowMakesRow.holds Try.pinned (OpenSpec.ofChange Rows.flowMakesSpec) :=
  OpenClaim.holds_of_wide 13 Try.f13 rfl rfl rfl rfl rfl rfl rfl ⟨rfl, rfl, rfl, rfl, rfl⟩ rfl rfl rfl rfl rfl (by kernel_rfl) Try.func13 closed
    (of_decide_eq_true (by kernel_rfl)) (by unfold Func.isWrapper; rw [if_neg (by decide +kernel)]; exact ⟨rfl, rfl⟩)
    (fun os started H enc _ => lifted os started H enc)

theorem proved : Rows.FlowMakesSaid := over
end Go.Proofs.Ytndohmimcbmhdaa.lawFlowMakes
