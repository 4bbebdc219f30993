/-
  NumEdges: called with any values of its parameters, the law answers true, and of what lay in memory nothing has turned. No condition.
-/
import Derived.Test.YtpobkbedablfeaaRows
import Derived.Test.YtpobkbedablfeaaFrame
import Derived.Test.YtpobkbedablfeaaNum
import Derived.Test.YtpobkbedablfeaaPlain
namespace Go.Proofs.Ytpobkbedablfeaa.lawNumEdges
open Go.ChangeShapes Go.WideShapes Go.ChangeAt Go.RowKit

theorem own : ownKnob Try.prog.godebug = none := by kernel_rfl
theorem laidOut : laidOutB Try.prog = true := by kernel_rfl


theorem walk (w : World) :
    Calls Try.prog 12 #[] w fun e w' => e = .returned (.bool true) ∧ Below w.heap.size w w' := by
  have n1 : doF 3 9218868437227405312 9218868437227405312 = 9221120237041090561 := by decide +kernel
  have n2 : doF 4 0 9218868437227405312 = 9221120237041090561 := by decide +kernel
  have n3 : doF 5 0 9223372036854775808 = 9221120237041090561 := by decide +kernel
  have n4 : doF 5 9218868437227405312 9218868437227405312 = 9221120237041090561 := by decide +kernel
  have n5 : doF 5 4607182418800017408 9223372036854775808 = 18442240474082181120 := by decide +kernel
  have n6 : doF 5 4607182418800017408 0 = 9218868437227405312 := by decide +kernel
  have n7 : doF 2 9223372036854775808 0 = 0 := by decide +kernel
  have n8 : doF 2 9223372036854775808 9223372036854775808 = 9223372036854775808 := by decide +kernel
  have n9 : doF 4 9223372036854775808 4607182418800017408 = 9223372036854775808 := by decide +kernel
  have n10 : doF 6 9223372036854775808 0 = 4607182418800017408 := by decide +kernel
  have n11 : doF 6 9218868437227405312 9221120237041090561 = 4607182418800017408 := by decide +kernel
  have n12 : doF 6 9221120237041090561 18442240474082181120 = 0 := by decide +kernel
  go_enter Try.func12, Try.ntmps12
  go_wp2_with fail
  go_loopw [1, 3] (fun i _ wr => ∃ k : Nat, 2 ≤ k ∧ k ≤ 6 ∧ i = .int .i64 k ∧ Below w.heap.size w wr) (fun i _ _ => 6 - (intOf i).toNat)
  case atStart => exact ⟨2, by omega, by omega, rfl, Below.refl _ _⟩
  case round =>
    obtain ⟨k, hk1, hk2, rfl, hb⟩ := hrel
    by_cases hk : k ≤ 5
    · have hkz : (k : Int) ≤ 5 := by omega
      have dn := doF_nan k (by omega) (by omega)
      have d1 := fun x => (dn x).1
      have d2 := fun x => (dn x).2
      clear dn
      go_wp2_with fail
      go_loopw [11] (fun i wr2 => ∃ j : Nat, j ≤ 6 ∧ i = .int .i64 j ∧ Below w.heap.size w wr2) (fun i _ => 6 - (intOf i).toNat)
      case atStart => exact ⟨0, by omega, rfl, hb⟩
      case round =>
        obtain ⟨j, hj, rfl, hb2⟩ := hrel
        by_cases hjj : j < 6
        · have hjz : (j : Int) < 6 := by omega
          obtain ⟨x, hx0, hx1, hix⟩ : ∃ x : Int, 0 ≤ x ∧ x < 18446744073709551616 ∧ ∀ w, (Instr.index 41 (.agg #[.int .u64 0, .int .u64 9223372036854775808, .int .u64 4607182418800017408, .int .u64 9218868437227405312, .int .u64 18442240474082181120, .int .u64 9221120237041090561]) (.int .i64 (j : Int))).run Try.prog w = .ok (.int .u64 x) w := by
            have : j = 0 ∨ j = 1 ∨ j = 2 ∨ j = 3 ∨ j = 4 ∨ j = 5 := by omega
            rcases this with rfl | rfl | rfl | rfl | rfl | rfl
            · exact ⟨0, by omega, by omega, fun _ => by kernel_rfl⟩
            · exact ⟨9223372036854775808, by omega, by omega, fun _ => by kernel_rfl⟩
            · exact ⟨4607182418800017408, by omega, by omega, fun _ => by kernel_rfl⟩
            · exact ⟨9218868437227405312, by omega, by omega, fun _ => by kernel_rfl⟩
            · exact ⟨18442240474082181120, by omega, by omega, fun _ => by kernel_rfl⟩
            · exact ⟨9221120237041090561, by omega, by omega, fun _ => by kernel_rfl⟩
          go_wp2_with (first
    | (go_at_call 16; refine (less16 _ _ _ (by omega) (by omega) (by omega) (by omega)).mono ?_; rintro e w' ⟨rfl, rfl⟩)
    | (go_at_call 17; refine (key17 _ _ (by omega) (by omega)).mono ?_; rintro e w' ⟨rfl, rfl⟩)
    | (go_at_call 18; refine (key18 _ _ (by omega) (by omega)).mono ?_; rintro e w' ⟨rfl, rfl⟩)
    | (go_at_call 19; refine (less19 _ _ _ (by omega) (by omega) (by omega) (by omega)).mono ?_; rintro e w' ⟨rfl, rfl⟩)
    | (go_at_call 20; refine (canon20 _ _ (by omega)).mono ?_; rintro e w' ⟨rfl, rfl⟩)
    | (go_at_call 33; refine (kind33 _ _ (by omega) (by omega)).mono ?_; rintro e w' ⟨rfl, rfl⟩)
    | (go_at_call 34; refine (canon34 _ _ (by omega) (by omega)).mono ?_; rintro e w' ⟨rfl, rfl⟩)
    | (go_at_call 35; refine (kind35 _ _ (by omega) (by omega)).mono ?_; rintro e w' ⟨rfl, rfl⟩)
    | (go_at_call 31; refine (do31 _ _ _ _ (by omega) (by omega) (by omega) (by omega)).mono ?_; rintro e w' ⟨rfl, n, rfl⟩)
    | (go_at_call 32; refine (do32 _ _ _ _ (by omega) (by omega) (by omega) (by omega)).mono ?_; rintro e w' ⟨rfl, n, rfl⟩))
          go_roundw
          case rel => exact ⟨j + 1, by omega, by go_num, by repeat (first | exact hb2 | apply below_drewN)⟩
          case measure => simp [intOf]; omega
        · have hjz : ¬ (j : Int) < 6 := by omega
          go_wp2_with fail
          go_roundw
          case rel => exact ⟨k + 1, by omega, by omega, by go_num, hb2⟩
          case measure => simp [intOf]; omega
    · have hkz : ¬ (k : Int) ≤ 5 := by omega
      go_wp2_with (first
    | (go_at_call 16; refine (less16 _ _ _ (by omega) (by omega) (by omega) (by omega)).mono ?_; rintro e w' ⟨rfl, rfl⟩)
    | (go_at_call 17; refine (key17 _ _ (by omega) (by omega)).mono ?_; rintro e w' ⟨rfl, rfl⟩)
    | (go_at_call 18; refine (key18 _ _ (by omega) (by omega)).mono ?_; rintro e w' ⟨rfl, rfl⟩)
    | (go_at_call 19; refine (less19 _ _ _ (by omega) (by omega) (by omega) (by omega)).mono ?_; rintro e w' ⟨rfl, rfl⟩)
    | (go_at_call 20; refine (canon20 _ _ (by omega)).mono ?_; rintro e w' ⟨rfl, rfl⟩)
    | (go_at_call 33; refine (kind33 _ _ (by omega) (by omega)).mono ?_; rintro e w' ⟨rfl, rfl⟩)
    | (go_at_call 34; refine (canon34 _ _ (by omega) (by omega)).mono ?_; rintro e w' ⟨rfl, rfl⟩)
    | (go_at_call 35; refine (kind35 _ _ (by omega) (by omega)).mono ?_; rintro e w' ⟨rfl, rfl⟩)
    | (go_at_call 31; refine (do31 _ _ _ _ (by omega) (by omega) (by omega) (by omega)).mono ?_; rintro e w' ⟨rfl, n, rfl⟩)
    | (go_at_call 32; refine (do32 _ _ _ _ (by omega) (by omega) (by omega) (by omega)).mono ?_; rintro e w' ⟨rfl, n, rfl⟩))
      go_ret
      exact ⟨rfl, by repeat (first | exact hb | apply below_drewN)⟩

theorem fits {H : Type} : ∀ ds : List (DataW H), ds.length = Try.f12.params.toList.length → Rows.numEdgesSpec.fn H ds = { results := [.lit (.bool true)], args := ds } := by
  intro ds h
  rw [Try.params12] at h
  match ds, h with
  | [], _ => rfl

set_option maxRecDepth 100000 in
theorem lifted (os : Os) (started : os.Started) (H : Type) (enc : TypeId × Value → H) :
    ReturnsInHanded {} Try.checked os 12 .any (Rows.numEdgesSpec.pre6 enc Try.prog Try.f12 Rows.numEdgesRow.domain false) (Rows.numEdgesSpec.post enc Try.prog Try.f12 false true false false) := by
  refine returnsInHanded_of_change (C := Try.checked) own started (by kernel_rfl) Try.func12
    (ChangeSpec.witness6 (enc := enc) (C := Try.checked) false ⟨#[], #[], []⟩ 8 (by kernel_rfl) (by kernel_rfl) (by kernel_rfl) (by kernel_rfl)) ?_
  intro W base args ds gs before hval0 hW hcnd _
  have hval : ∀ (j : Nat) t v, Try.f12.params[j]? = some t → args[j]? = some v → Value.okWide Try.prog W .any base t v := hval0
  have hpost : ∀ W', Below W.heap.size W W' → Rows.numEdgesSpec.post enc Try.prog Try.f12 false true false false W args (.bool true) W' := fun W' hb =>
    law_post rfl rfl Try.underlying4 laidOut (by kernel_rfl) fits hW hb
  obtain ⟨p, q, hA0, hV, rfl, hfz, hnd⟩ := hW
  have hA : DataW.TrodAll enc Try.prog W 0 (fun _ => true) true Try.f12.params.toList args.toList ds p := hA0
  rw [Try.params12] at hA hval
  obtain ⟨rfl, rfl, rfl⟩ := trodAll_none hA
  refine (walk W).mono fun e W' ⟨he, hg⟩ => ?_
  subst he
  exact ⟨_, rfl, hpost W' hg⟩

theorem over : Rows.numEdgesRow.holds Try.pinned (OpenSpec.ofChange Rows.numEdgesSpec) :=
  OpenClaim.holds_of_wide 12 Try.f12 rfl rfl rfl rfl rfl rfl rfl ⟨rfl, rfl, rfl, rfl, rfl⟩ rfl rfl rfl rfl rfl (by kernel_rfl) Try.func12 (by kernel_rfl)
    (of_decide_eq_true (by kernel_rfl)) (by unfold Func.isWrapper; first | (rw [if_pos (by decide +kernel)]; kernel_rfl) | (rw [if_neg (by decide +kernel)]; exact ⟨rfl, rfl⟩))
    (fun os started H enc _ => lifted os started H enc)

theorem proved : Rows.NumEdgesSaid := over
end Go.Proofs.Ytpobkbedablfeaa.lawNumEdges
