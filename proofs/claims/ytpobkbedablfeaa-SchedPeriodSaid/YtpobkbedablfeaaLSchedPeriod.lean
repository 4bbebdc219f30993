/-
  SchedPeriod: called with any values of its parameters, the law answers true, and of what lay in memory nothing has turned. No condition.
-/
import Derived.Test.YtpobkbedablfeaaRows
import Derived.Test.YtpobkbedablfeaaFrame
import Derived.Test.YtpobkbedablfeaaAlive
namespace Go.Proofs.Ytpobkbedablfeaa.lawSchedPeriod
open Go.ChangeShapes Go.WideShapes Go.ChangeAt Go.RowKit

theorem own : ownKnob Try.prog.godebug = none := by kernel_rfl
theorem laidOut : laidOutB Try.prog = true := by kernel_rfl

theorem tick_at (e k : Int) (he : 1 ≤ e) (he2 : e ≤ 100) (hk : 1 ≤ k) (hk2 : k ≤ 501) :
    tickN ((k - 1) % e) e = k % e ∧ tickB ((k - 1) % e) e = (k % e == 0) ∧ (k - 1) / e + (if (k % e == 0) = true then 1 else 0) = k / e ∧ 0 ≤ (k - 1) % e ∧ (k - 1) % e < e ∧ 0 ≤ (k - 1) / e ∧ (k - 1) / e ≤ 500 := by
  have h1 := Int.emod_nonneg (k - 1) (b := e) (by omega)
  have h2 := Int.emod_lt_of_pos (k - 1) (b := e) (by omega)
  have h4 := Int.mul_ediv_add_emod (k - 1) e
  have hq0 : 0 ≤ (k - 1) / e := Int.ediv_nonneg (by omega) (by omega)
  have hq1 : (k - 1) / e ≤ k - 1 := Int.ediv_le_self _ (by omega)
  have hc : clampT ((k - 1) % e) = (k - 1) % e := by unfold clampT; rw [if_neg (by omega), if_neg (by omega)]
  by_cases hd : (k - 1) % e + 1 ≥ e
  · have hk' : k = e * ((k - 1) / e + 1) := by rw [Int.mul_add]; omega
    have hm : k % e = 0 := by rw [hk']; exact Int.mul_emod_right _ _
    have hv : k / e = (k - 1) / e + 1 := by
      conv => lhs; rw [hk']
      exact Int.mul_ediv_cancel_left _ (by omega)
    refine ⟨?_, ?_, ?_, h1, h2, hq0, by omega⟩
    · unfold tickN; rw [hc, if_pos ⟨by omega, hd⟩, hm]
    · unfold tickB; rw [hc, decide_eq_true ⟨by omega, hd⟩, hm]; rfl
    · rw [hm, hv]; simp
  · have hk' : k = (k - 1) % e + 1 + e * ((k - 1) / e) := by omega
    have hm : k % e = (k - 1) % e + 1 := by
      conv => lhs; rw [hk']
      rw [Int.add_mul_emod_self_left, Int.emod_eq_of_lt (by omega) (by omega)]
    have hv : k / e = (k - 1) / e := by
      conv => lhs; rw [hk']
      rw [Int.add_mul_ediv_left _ _ (by omega), Int.ediv_eq_zero_of_lt (by omega) (by omega)]; omega
    refine ⟨?_, ?_, ?_, h1, h2, hq0, by omega⟩
    · unfold tickN; rw [hc, if_neg (by omega), hm]
    · unfold tickB; rw [hc, decide_eq_false (by omega), hm]
      symm; rw [beq_eq_false_iff_ne]; omega
    · rw [hm, hv]
      have : ((k - 1) % e + 1 == 0) = false := by rw [beq_eq_false_iff_ne]; omega
      rw [this]; simp


theorem walk (a0 : Int) (a1 : Int) (b0 : -9223372036854775808 ≤ a0 ∧ a0 ≤ 9223372036854775807) (b1 : -9223372036854775808 ≤ a1 ∧ a1 ≤ 9223372036854775807) (w : World) :
    Calls Try.prog 9 #[.int .i64 a0, .int .i64 a1] w fun e w' => e = .returned (.bool true) ∧ Below w.heap.size w w' := by
  go_enter Try.func9, Try.ntmps9
  go_wp2_with fail
  refine (alive22 w).mono ?_
  rintro e w1 ⟨rfl, hb1⟩
  have HB1 := hidI hb1
  clear hb1
  by_cases g : 1 ≤ a0 ∧ a0 ≤ 100 ∧ 0 ≤ a1 ∧ a1 ≤ 500
  · obtain ⟨g1, g2, g3, g4⟩ := g
    have n1 : ¬ a0 < 1 := by omega
    have n2 : ¬ 100 < a0 := by omega
    have n3 : ¬ a1 < 0 := by omega
    have n4 : ¬ 500 < a1 := by omega
    go_wp2_with fail
    go_loopw [5, 6, 7] (fun v5 v6 v7 wr => ∃ m q k : Int, 1 ≤ k ∧ k ≤ a1 + 1 ∧ v5 = .int .i64 m ∧ v6 = .int .i64 q ∧ v7 = .int .i64 k ∧ Hid (m = (k - 1) % a0) ∧ Hid (q = (k - 1) / a0) ∧ Hid (Below w.heap.size w wr)) (fun _ _ v7 _ => 600 - (intOf v7).toNat)
    case atStart => exact ⟨0, 0, 1, by omega, by omega, rfl, rfl, rfl, by simp [Hid], by simp [Hid], HB1.out⟩
    case round =>
      obtain ⟨m, q, k, k1, k2, rfl, rfl, rfl, HM, HQ, BW⟩ := hrel
      by_cases hlt : k ≤ a1
      · obtain ⟨T1, T2, T3, r1, r2, r3, r4⟩ := tick_at a0 k g1 g2 k1 (by omega)
        rw [← HM.out] at T1 T2 r1 r2
        rw [← HQ.out] at T3 r3 r4
        have HC := hidI (tick21 wr m a0 (by omega) (by omega) (by omega) (by omega))
        rw [T1, T2] at HC
        have HM2 : Hid (k % a0 = (k + 1 - 1) % a0) := by show _ = _; rw [Int.add_sub_cancel]
        have HT : Hid (k / a0 = (k + 1 - 1) / a0) := by show _ = _; rw [Int.add_sub_cancel]
        clear T1 T2
        generalize k / a0 = q2 at *
        have a0n : a0 ≠ 0 := by omega
        cases hd : (k % a0 == 0) with
        | true =>
          rw [hd] at T3 HC
          have T4 : Hid (q + 1 = q2) := by show _ = _; simpa using T3
          clear T3
          go_wp2_with (go_at_call 21; refine HC.out.mono ?_; rintro e w' ⟨rfl, rfl⟩)
          go_roundw
          case measure => simp [intOf] <;> omega
          case rel => exact ⟨_, q + 1, k + 1, by omega, by omega, rfl, rfl, rfl, HM2.out, by rw [T4.out]; exact HT.out, BW.out⟩
        | false =>
          rw [hd] at T3 HC
          have T4 : Hid (q = q2) := by show _ = _; simpa using T3
          clear T3
          go_wp2_with (go_at_call 21; refine HC.out.mono ?_; rintro e w' ⟨rfl, rfl⟩)
          go_roundw
          case measure => simp [intOf] <;> omega
          case rel => exact ⟨_, q, k + 1, by omega, by omega, rfl, rfl, rfl, HM2.out, by rw [T4.out]; exact HT.out, BW.out⟩
      · have hk : k - 1 = a1 := by omega
        have c1 : (q == a1 / a0) = true := by rw [HQ.out, hk]; simp
        have c2 : (m == a1 % a0) = true := by rw [HM.out, hk]; simp
        have hltz : ¬ k ≤ a1 := hlt
        have a0n : a0 ≠ 0 := by omega
        clear hk
        go_wp2_with fail
        go_ret
        exact ⟨rfl, BW.out⟩
  · go_wp2_with fail
    all_goals (first | (exfalso; omega) | (go_ret; exact ⟨rfl, HB1.out⟩))

theorem fits {H : Type} : ∀ ds : List (DataW H), ds.length = Try.f9.params.toList.length → Rows.schedPeriodSpec.fn H ds = { results := [.lit (.bool true)], args := ds } := by
  intro ds h
  rw [Try.params9] at h
  match ds, h with
  | [e0, e1], _ => rfl

set_option maxRecDepth 100000 in
theorem lifted (os : Os) (started : os.Started) (H : Type) (enc : TypeId × Value → H) :
    ReturnsInHanded {} Try.checked os 9 .any (Rows.schedPeriodSpec.pre6 enc Try.prog Try.f9 Rows.schedPeriodRow.domain false) (Rows.schedPeriodSpec.post enc Try.prog Try.f9 false true false false) := by
  refine returnsInHanded_of_change (C := Try.checked) own started (by kernel_rfl) Try.func9
    (ChangeSpec.witness6 (enc := enc) (C := Try.checked) false ⟨#[], #[.int .i64 0, .int .i64 0], []⟩ 8 (by kernel_rfl) (by kernel_rfl) (by kernel_rfl) (by kernel_rfl)) ?_
  intro W base args ds gs before hval0 hW hcnd _
  have hval : ∀ (j : Nat) t v, Try.f9.params[j]? = some t → args[j]? = some v → Value.okWide Try.prog W .any base t v := hval0
  have hpost : ∀ W', Below W.heap.size W W' → Rows.schedPeriodSpec.post enc Try.prog Try.f9 false true false false W args (.bool true) W' := fun W' hb =>
    law_post rfl rfl Try.underlying4 laidOut (by kernel_rfl) fits hW hb
  obtain ⟨p, q, hA0, hV, rfl, hfz, hnd⟩ := hW
  have hA : DataW.TrodAll enc Try.prog W 0 (fun _ => true) true Try.f9.params.toList args.toList ds p := hA0
  rw [Try.params9] at hA hval
  obtain ⟨v0, vs0, d0, ds0, p0, q0, hargs, rfl, rfl, h0, r0⟩ := trodAll_cons hA
  obtain ⟨v1, vs1, d1, ds1, p1, q1, rfl, rfl, rfl, h1, r1⟩ := trodAll_cons r0
  obtain ⟨rfl, rfl, rfl⟩ := trodAll_nil r1
  obtain rfl : args = #[v0, v1] := by cases args; simp_all
  obtain ⟨a0, rfl, rfl, rfl, w0⟩ := open_int Try.underlying3 (hval 0 3 v0 rfl rfl) h0
  obtain ⟨a1, rfl, rfl, rfl, w1⟩ := open_int Try.underlying3 (hval 1 3 v1 rfl rfl) h1
  refine (walk a0 a1 (by simpa [Lit.wf, IntKind.min, IntKind.max, IntKind.signed, IntKind.bits] using w0) (by simpa [Lit.wf, IntKind.min, IntKind.max, IntKind.signed, IntKind.bits] using w1) W).mono fun e W' ⟨he, hg⟩ => ?_
  subst he
  exact ⟨_, rfl, hpost W' hg⟩

theorem over : Rows.schedPeriodRow.holds Try.pinned (OpenSpec.ofChange Rows.schedPeriodSpec) :=
  OpenClaim.holds_of_wide 9 Try.f9 rfl rfl rfl rfl rfl rfl rfl ⟨rfl, rfl, rfl, rfl, rfl⟩ rfl rfl rfl rfl rfl (by kernel_rfl) Try.func9 (by kernel_rfl)
    (of_decide_eq_true (by kernel_rfl)) (by unfold Func.isWrapper; first | (rw [if_pos (by decide +kernel)]; kernel_rfl) | (rw [if_neg (by decide +kernel)]; exact ⟨rfl, rfl⟩))
    (fun os started H enc _ => lifted os started H enc)

theorem proved : Rows.SchedPeriodSaid := over
end Go.Proofs.Ytpobkbedablfeaa.lawSchedPeriod
