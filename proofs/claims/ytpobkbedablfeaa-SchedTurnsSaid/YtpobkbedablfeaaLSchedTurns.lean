/-
  SchedTurns: called with any values of its parameters, the law answers true, and of what lay in memory nothing has turned. No condition.
-/
import Derived.Test.YtpobkbedablfeaaRows
import Derived.Test.YtpobkbedablfeaaFrame
import Derived.Test.YtpobkbedablfeaaAlive
import Derived.Test.YtpobkbedablfeaaOpen
namespace Go.Proofs.Ytpobkbedablfeaa.lawSchedTurns
open Go.ChangeShapes Go.WideShapes Go.ChangeAt Go.RowKit

theorem own : ownKnob Try.prog.godebug = none := by kernel_rfl
theorem laidOut : laidOutB Try.prog = true := by kernel_rfl

theorem take_any (l : List Int) (who : Int) (k : Nat) (x : Int) (h : l[k]? = some x) : (l.take (k + 1)).any (fun y => who == y) = ((l.take k).any (fun y => who == y) || (x == who)) := by
  rw [List.take_add_one, h, List.any_append]
  have : (who == x) = (x == who) := by rw [Bool.eq_iff_iff, beq_iff_eq, beq_iff_eq]; exact eq_comm
  simp [this]


theorem walk (A0 : Option Addr) (n0 c0 : Nat) (x0 : List Th) (a1 : Int) (a2 : Int) (b1 : -9223372036854775808 ≤ a1 ∧ a1 ≤ 9223372036854775807) (b2 : 0 ≤ a2 ∧ a2 ≤ 18446744073709551615) (w : World) (t0 : ThingsAt w w.heap.size A0 n0 c0 x0) :
    Calls Try.prog 6 #[.slice A0 n0 c0, .int .i64 a1, .int .u64 a2] w fun e w' => e = .returned (.bool true) ∧ Below w.heap.size w w' := by
  have H := hidI t0
  clear t0
  go_enter Try.func6, Try.ntmps6
  go_wp2_with fail
  refine (alive22 w).mono ?_
  rintro e w1 ⟨rfl, hb1⟩
  have HB1 := hidI hb1
  clear hb1
  by_cases g100 : n0 ≤ 100
  · have g1 : ¬ (100 : Int) < (n0 : Int) := by omega
    go_wp2_with fail
    refine (graph25 w1 A0 n0 c0 x0 ((H.out.below HB1.out).more HB1.out.size)).mono ?_
    rintro e w2 ⟨r, rfl, hr, hb2⟩
    have HB2 := hidI (belowT HB1.out hb2)
    clear hb2 hr
    cases r with
    | false =>
      go_wp2_with fail
      go_ret
      exact ⟨rfl, HB2.out⟩
    | true =>
      go_wp2_with fail
      refine (live26 w2 A0 n0 c0 x0 ((H.out.below HB2.out).more HB2.out.size) (by omega)).mono ?_
      rintro e w3 ⟨v, rfl, hv, hb3⟩
      obtain ⟨A1, c1, rfl, hN⟩ := NumsAt.of_own hv
      have HB3 := hidI (belowT HB2.out hb3)
      have HN := hidI hN
      have HL := hidI (rfl : liveL x0 = liveL x0)
      clear hv hb3 hN
      have hm : (liveL x0).length ≤ 9223372036854775807 := by have := HN.out.cap; have := HN.out.max; unfold maxLen at this; omega
      obtain ⟨l, hl⟩ : ∃ l, l = liveL x0 := ⟨_, rfl⟩
      rw [← hl] at HN hm
      have HLL := hidI hl
      rw [← hl]
      clear hl HL
      generalize hM : l.length = m at *
      have HM := hidI hM
      clear hM
      go_wp2_with fail
      go_loopw [8, 25] (fun v8 v25 wr => ∃ (k : Nat) (b : Bool), k ≤ m ∧ v8 = .bool b ∧ v25 = .int .i64 k ∧ Hid (w3 = wr) ∧ Hid (b = (l.take k).any (fun y => a2 == y))) (fun _ v25 _ => m - (intOf v25).toNat)
      case atStart => exact ⟨0, false, Nat.zero_le _, rfl, rfl, (rfl : w3 = w3), (by simp [Hid])⟩
      case round =>
        obtain ⟨k, b, hk, rfl, rfl, EW, HBB⟩ := hrel
        have ew : w3 = wr := EW
        subst ew
        by_cases hlt : k < m
        · have hltz : (k : Int) < (m : Int) := by omega
          obtain ⟨bb, off, y, rfl, hbB, hx, cc⟩ := HN.out.at_ hlt
          have HT := hidI (take_any l a2 k y hx)
          clear hx
          cases b with
          | true =>
            go_wp2_with fail
            go_roundw
            case measure => simp [intOf] <;> omega
            case rel => exact ⟨k + 1, true, by omega, rfl, by go_num, trivial, by rw [HT.out, ← HBB.out]; rfl⟩
          | false =>
            go_wp2_with fail
            go_roundw
            case measure => simp [intOf] <;> omega
            case rel => exact ⟨k + 1, (y == a2), by omega, rfl, by go_num, trivial, by rw [HT.out, ← HBB.out]; rfl⟩
        · have hltz : ¬ (k : Int) < (m : Int) := by omega
          have hkm : k = m := by omega
          have HBE : Hid (b = l.any (fun y => a2 == y)) := by show b = _; rw [HBB.out, List.take_of_length_le (by rw [HM.out]; omega)]
          clear HBB
          subst hkm
          go_wp2_with fail
          refine (live24 w3 A0 n0 c0 x0 ((H.out.below HB3.out).more HB3.out.size) (by omega)).mono ?_
          rintro e w4 ⟨v, rfl, hv, hb4⟩
          obtain ⟨A2, c2, rfl, hN2⟩ := NumsAt.of_own hv
          rw [← HLL.out, HM.out] at hN2
          rw [← HLL.out, HM.out]
          have HN2 := hidI hN2
          have HB4 := hidI (belowT HB3.out hb4)
          have HN1 := hidI ((HN.out.below hb4).more hb4.size)
          clear hv hb4 hN2
          go_wp2_with fail
          refine (sameIDs27 w4 A2 A1 k c2 c1 l HN2.out HN1.out).mono ?_
          rintro e w5 ⟨rfl, hb5⟩
          have HB5 := hidI (belowT HB4.out hb5)
          clear hb5
          go_wp2_with fail
          refine (runs28 w5 A0 n0 c0 x0 a2 ((H.out.below HB5.out).more HB5.out.size) (by omega)).mono ?_
          rintro e w6 ⟨rfl, hb6⟩
          rw [← HLL.out, ← HBE.out]
          have HB6 := hidI (belowT HB5.out hb6)
          clear hb6
          have hbb : (b == b) = true := by simp
          go_wp2_with fail
          refine (turn23 w6 A0 n0 c0 x0 a1 ((H.out.below HB6.out).more HB6.out.size) (by omega) (by omega) (by omega)).mono ?_
          rintro e w7 ⟨rfl, hb7⟩
          have HB7 := hidI (belowT HB6.out hb7)
          clear hb7
          go_wp2_with fail
          refine (turn29 w7 A0 n0 c0 x0 a1 ((H.out.below HB7.out).more HB7.out.size) (by omega) (by omega) (by omega)).mono ?_
          rintro e w8 ⟨rfl, hb8⟩
          have HB8 := hidI (belowT HB7.out hb8)
          clear hb8
          have htt := beq_self_eq_true (turnL (liveL x0) a1)
          go_wp2_with fail
          go_ret
          exact ⟨rfl, HB8.out⟩
  · have g1 : (100 : Int) < (n0 : Int) := by omega
    go_wp2_with fail
    go_ret
    exact ⟨rfl, HB1.out⟩

theorem fits {H : Type} : ∀ ds : List (DataW H), ds.length = Try.f6.params.toList.length → Rows.schedTurnsSpec.fn H ds = { results := [.lit (.bool true)], args := ds } := by
  intro ds h
  rw [Try.params6] at h
  match ds, h with
  | [e0, e1, e2], _ => rfl

set_option maxRecDepth 100000 in
theorem lifted (os : Os) (started : os.Started) (H : Type) (enc : TypeId × Value → H) :
    ReturnsInHanded {} Try.checked os 6 .any (Rows.schedTurnsSpec.pre6 enc Try.prog Try.f6 Rows.schedTurnsRow.domain false) (Rows.schedTurnsSpec.post enc Try.prog Try.f6 false true false false) := by
  refine returnsInHanded_of_change (C := Try.checked) own started (by kernel_rfl) Try.func6
    (ChangeSpec.witness6 (enc := enc) (C := Try.checked) false ⟨#[], #[.slice none 0 0, .int .i64 0, .int .u64 0], []⟩ 8 (by kernel_rfl) (by kernel_rfl) (by kernel_rfl) (by kernel_rfl)) ?_
  intro W base args ds gs before hval0 hW hcnd _
  have hval : ∀ (j : Nat) t v, Try.f6.params[j]? = some t → args[j]? = some v → Value.okWide Try.prog W .any base t v := hval0
  have hpost : ∀ W', Below W.heap.size W W' → Rows.schedTurnsSpec.post enc Try.prog Try.f6 false true false false W args (.bool true) W' := fun W' hb =>
    law_post rfl rfl Try.underlying4 laidOut (by kernel_rfl) fits hW hb
  obtain ⟨p, q, hA0, hV, rfl, hfz, hnd⟩ := hW
  have hA : DataW.TrodAll enc Try.prog W 0 (fun _ => true) true Try.f6.params.toList args.toList ds p := hA0
  rw [Try.params6] at hA hval
  obtain ⟨v0, vs0, d0, ds0, p0, q0, hargs, rfl, rfl, h0, r0⟩ := trodAll_cons hA
  obtain ⟨v1, vs1, d1, ds1, p1, q1, rfl, rfl, rfl, h1, r1⟩ := trodAll_cons r0
  obtain ⟨v2, vs2, d2, ds2, p2, q2, rfl, rfl, rfl, h2, r2⟩ := trodAll_cons r1
  obtain ⟨rfl, rfl, rfl⟩ := trodAll_nil r2
  obtain rfl : args = #[v0, v1, v2] := by cases args; simp_all
  obtain ⟨A0, n0, c0, rfl⟩ := okWide_slice Try.underlying32 (hval 0 32 v0 rfl rfl)
  obtain ⟨fu0, fd0⟩ := h0
  obtain ⟨A0', n0', c0', x0, e0, T0⟩ := things_of_trod fd0
  obtain ⟨rfl, rfl, rfl⟩ : A0 = A0' ∧ n0 = n0' ∧ c0 = c0' := by simpa [Value.cells] using e0
  obtain ⟨a1, rfl, rfl, rfl, w1⟩ := open_int Try.underlying3 (hval 1 3 v1 rfl rfl) h1
  obtain ⟨a2, rfl, rfl, rfl, w2⟩ := open_int Try.underlying22 (hval 2 22 v2 rfl rfl) h2
  refine (walk A0 n0 c0 x0 a1 a2 (by simpa [Lit.wf, IntKind.min, IntKind.max, IntKind.signed, IntKind.bits] using w1) (by simpa [Lit.wf, IntKind.min, IntKind.max, IntKind.signed, IntKind.bits] using w2) W T0).mono fun e W' ⟨he, hg⟩ => ?_
  subst he
  exact ⟨_, rfl, hpost W' hg⟩

theorem over : Rows.schedTurnsRow.holds Try.pinned (OpenSpec.ofChange Rows.schedTurnsSpec) :=
  OpenClaim.holds_of_wide 6 Try.f6 rfl rfl rfl rfl rfl rfl rfl ⟨rfl, rfl, rfl, rfl, rfl⟩ rfl rfl rfl rfl rfl (by kernel_rfl) Try.func6 (by kernel_rfl)
    (of_decide_eq_true (by kernel_rfl)) (by unfold Func.isWrapper; first | (rw [if_pos (by decide +kernel)]; kernel_rfl) | (rw [if_neg (by decide +kernel)]; exact ⟨rfl, rfl⟩))
    (fun os started H enc _ => lifted os started H enc)

theorem proved : Rows.SchedTurnsSaid := over
end Go.Proofs.Ytpobkbedablfeaa.lawSchedTurns
