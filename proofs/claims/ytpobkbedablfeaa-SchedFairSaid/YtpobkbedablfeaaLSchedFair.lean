/-
  SchedFair: called with any values of its parameters, the law answers true, and of what lay in memory nothing has turned. No condition.
-/
import Derived.Test.YtpobkbedablfeaaRows
import Derived.Test.YtpobkbedablfeaaFrame
import Derived.Test.YtpobkbedablfeaaAlive
import Derived.Test.YtpobkbedablfeaaOpen
namespace Go.Proofs.Ytpobkbedablfeaa.lawSchedFair
open Go.ChangeShapes Go.WideShapes Go.ChangeAt Go.RowKit

theorem own : ownKnob Try.prog.godebug = none := by kernel_rfl
theorem laidOut : laidOutB Try.prog = true := by kernel_rfl

theorem turn_once (f m i : Nat) (hi : i < m) : ∃ k0, k0 < m ∧ ∀ j, j < m → ((f + j) % m = i ↔ j = k0) := by
  have hm : 0 < m := by omega
  have hf := Nat.div_add_mod f m
  have ha : f % m < m := Nat.mod_lt _ hm
  have key : ∀ j, j < m → (f + j) % m = if f % m + j < m then f % m + j else f % m + j - m := by
    intro j hj
    have e : (f + j) % m = (f % m + j) % m := by rw [Nat.mod_add_mod]
    rw [e]
    split
    · rename_i h; exact Nat.mod_eq_of_lt h
    · rename_i h; rw [Nat.mod_eq_sub_mod (by omega), Nat.mod_eq_of_lt (by omega)]
  refine ⟨if f % m ≤ i then i - f % m else i + m - f % m, by split <;> omega, fun j hj => ?_⟩
  rw [key j hj]
  split <;> split <;> omega

/-- The IDs of who may run: each once. -/
theorem live_nodup (ts : List Th) (h : Rises ts) : (liveL ts).Pairwise (· < ·) := by
  have hp : (ts.map (·.id)).Pairwise (· < ·) := by
    rw [List.pairwise_iff_getElem]
    have key : ∀ d i (hi : i + d + 1 < (ts.map (·.id)).length), (ts.map (·.id))[i]'(by omega) < (ts.map (·.id))[i + d + 1] := by
      intro d
      induction d with
      | zero =>
        intro i hi
        simp only [List.length_map] at hi
        have := h i ts[i] ts[i + 1] (List.getElem?_eq_getElem (by omega)) (List.getElem?_eq_getElem (by omega))
        simpa using this
      | succ d ih =>
        intro i hi
        have h1 := ih i (by omega)
        simp only [List.length_map] at hi
        have h2 := h (i + d + 1) ts[i + d + 1] ts[i + d + 1 + 1] (List.getElem?_eq_getElem (by omega)) (List.getElem?_eq_getElem (by omega))
        simp only [List.getElem_map] at h1 ⊢
        exact Int.lt_trans h1 h2
    intro i j hi hj hij
    have := key (j - i - 1) i (by omega)
    have e : i + (j - i - 1) + 1 = j := by omega
    simpa [e] using this
  unfold liveL
  rw [List.pairwise_map] at hp ⊢
  exact hp.filter _

theorem turn_is (l : List Int) (hl : l.Pairwise (· < ·)) (f : Nat) (i j : Nat) (x : Int) (hi : l[i]? = some x) : turnL l ((f : Int) + (j : Int)) = x ↔ (f + j) % l.length = i := by
  have hi' : i < l.length := (List.getElem?_eq_some_iff.1 hi).1
  have e : (((f : Int) + (j : Int)) % (l.length : Int)).toNat = (f + j) % l.length := by
    rw [← Int.natCast_add, ← Int.natCast_emod]; rfl
  have hlt : (f + j) % l.length < l.length := Nat.mod_lt _ (by omega)
  unfold turnL
  rw [if_neg (by omega), e, List.getD_eq_getElem?_getD, List.getElem?_eq_getElem hlt]
  obtain ⟨_, rfl⟩ := List.getElem?_eq_some_iff.1 hi
  show l[(f + j) % l.length] = l[i] ↔ _
  constructor
  · intro h
    rw [List.pairwise_iff_getElem] at hl
    rcases Nat.lt_trichotomy ((f + j) % l.length) i with h1 | h1 | h1
    · have := hl _ _ hlt hi' h1; omega
    · exact h1
    · have := hl _ _ hi' hlt h1; omega
  · intro h
    simp only [h]


theorem walk (A0 : Option Addr) (n0 c0 : Nat) (x0 : List Th) (a1 : Int) (b1 : -9223372036854775808 ≤ a1 ∧ a1 ≤ 9223372036854775807) (w : World) (t0 : ThingsAt w w.heap.size A0 n0 c0 x0) :
    Calls Try.prog 8 #[.slice A0 n0 c0, .int .i64 a1] w fun e w' => e = .returned (.bool true) ∧ Below w.heap.size w w' := by
  have H := hidI t0
  clear t0
  go_enter Try.func8, Try.ntmps8
  go_wp2_with fail
  refine (alive22 w).mono ?_
  rintro e w1 ⟨rfl, hb1⟩
  have HB1 := hidI hb1
  clear hb1
  by_cases g100 : n0 ≤ 100
  · have g1 : ¬ (100 : Int) < (n0 : Int) := by omega
    go_wp2_with fail
    refine (graph25 w1 A0 n0 c0 x0 ((H.out.below HB1.out).more HB1.out.size)).mono ?_
    rintro e w2 ⟨r, rfl, hr, hb2⟩
    have HB2 := hidI (belowT HB1.out hb2)
    clear hb2
    cases r with
    | false =>
      clear hr
      go_wp2_with fail
      go_ret
      exact ⟨rfl, HB2.out⟩
    | true =>
      have HP := hidI (live_nodup x0 (hr rfl))
      clear hr
      by_cases gf : 0 ≤ a1 ∧ a1 ≤ 1000000
      · obtain ⟨gf1, gf2⟩ := gf
        have nf1 : ¬ a1 < 0 := by omega
        have nf2 : ¬ 1000000 < a1 := by omega
        obtain ⟨f, hf⟩ : ∃ f : Nat, (f : Int) = a1 := ⟨a1.toNat, by omega⟩
        have HF := hidI hf
        clear hf
        go_wp2_with fail
        refine (live24 w2 A0 n0 c0 x0 ((H.out.below HB2.out).more HB2.out.size) (by omega)).mono ?_
        rintro e w3 ⟨v, rfl, hv, hb3⟩
        obtain ⟨A1, c1, rfl, hN⟩ := NumsAt.of_own hv
        have HB3 := hidI (belowT HB2.out hb3)
        have HN := hidI hN
        have hlen := liveL_len x0 n0
        rw [List.take_of_length_le (by have := H.out.len; omega)] at hlen
        clear hv hb3 hN
        obtain ⟨l, hl⟩ : ∃ l, l = liveL x0 := ⟨_, rfl⟩
        rw [← hl] at HN hlen HP
        rw [← hl]
        have HLL := hidI hl
        clear hl
        generalize hM : l.length = m at *
        have HM := hidI hM
        clear hM
        go_wp2_with fail
        go_loopw [32] (fun v32 wr => ∃ i : Nat, i ≤ m ∧ v32 = .int .i64 i ∧ Hid (Below w3.heap.size w3 wr)) (fun v32 _ => m - (intOf v32).toNat)
        case atStart => exact ⟨0, Nat.zero_le _, rfl, Below.refl _ _⟩
        case round =>
          obtain ⟨i, hi, rfl, BW⟩ := hrel
          by_cases hlt : i < m
          · have hltz : (i : Int) < (m : Int) := by omega
            obtain ⟨bb, off, y, rfl, hbB, hx, cc⟩ := (HN.out.below BW.out).at_ hlt
            obtain ⟨k0, hk0, hk1⟩ := turn_once f m i hlt
            have HK : Hid (∀ j : Nat, j < m → (turnL l (a1 + (j : Int)) = y ↔ j = k0)) := by
              show ∀ j : Nat, j < m → _
              intro j hj
              rw [← HF.out, turn_is l HP.out f i j y hx, HM.out]
              exact hk1 j hj
            have HY : Hid (l.any (fun z => y == z) = true) := by
              show _ = _
              obtain ⟨hi', e⟩ := List.getElem?_eq_some_iff.1 hx
              exact List.any_eq_true.2 ⟨_, List.getElem_mem hi', by simp [e]⟩
            clear hx hk1
            go_wp2_with fail
            go_loopw [8, 38] (fun v8 v38 wq => ∃ j : Nat, ∃ q : Int, j ≤ m ∧ v8 = .int .i64 q ∧ v38 = .int .i64 j ∧ Hid (q = if k0 < j then 1 else 0) ∧ Hid (Below w3.heap.size w3 wq)) (fun _ v38 _ => m - (intOf v38).toNat)
            case atStart => exact ⟨0, 0, Nat.zero_le _, rfl, rfl, (by show (0:Int) = _; simp), BW.out⟩
            case round =>
              obtain ⟨j, q, hj, rfl, rfl, HQ, BQ⟩ := hrel
              by_cases hjlt : j < m
              · have hjz : (j : Int) < (m : Int) := by omega
                have ht := HK.out j hjlt
                have HC := hidI (turn23 _ A0 n0 c0 x0 (a1 + (j : Int)) (((H.out.below HB3.out).more HB3.out.size |>.below BQ.out).more BQ.out.size) (by omega) (by omega) (by omega))
                rw [← HLL.out] at HC
                have hq0 : 0 ≤ q ∧ q ≤ 1 := by rw [HQ.out]; split <;> omega
                by_cases hjk : j = k0
                · have ht' := ht.2 hjk
                  have HJ := hidI hjk
                  rw [ht'] at HC
                  clear ht ht' hjk
                  have hyy := beq_self_eq_true y
                  go_wp2_with (go_at_call 23; refine HC.out.mono ?_; rintro e w' ⟨rfl, hb'⟩)
                  go_roundw
                  case measure => simp [intOf] <;> omega
                  case rel => exact ⟨j + 1, q + 1, by omega, rfl, by go_num, (by show q + 1 = _; rw [HQ.out, if_neg (by have := HJ.out; omega), if_pos (by have := HJ.out; omega)]; rfl), belowT BQ.out hb'⟩
                · have ht' : ¬ turnL l (a1 + (j : Int)) = y := fun h => hjk (ht.1 h)
                  have HJ := hidI hjk
                  generalize turnL l (a1 + (j : Int)) = tt at *
                  have hbe : (tt == y) = false := beq_false_of_ne ht'
                  clear ht hjk
                  go_wp2_with (go_at_call 23; refine HC.out.mono ?_; rintro e w' ⟨rfl, hb'⟩)
                  go_roundw
                  case measure => simp [intOf] <;> omega
                  case rel => exact ⟨j + 1, q, by omega, rfl, by go_num, (by show q = _; rw [HQ.out]; have := HJ.out; split <;> split <;> omega), belowT BQ.out hb'⟩
              · have hjz : ¬ (j : Int) < (m : Int) := by omega
                have hq1 : q = 1 := by rw [HQ.out, if_pos (by omega)]
                clear HQ
                subst hq1
                have HR := hidI (runs28 _ A0 n0 c0 x0 y (((H.out.below HB3.out).more HB3.out.size |>.below BQ.out).more BQ.out.size) (by omega))
                rw [← HLL.out, HY.out] at HR
                go_wp2_with (go_at_call 28; refine HR.out.mono ?_; rintro e w' ⟨rfl, hb'⟩)
                go_roundw
                case measure => simp [intOf] <;> omega
                case rel => exact ⟨i + 1, by omega, by go_num, belowT BQ.out hb'⟩
          · have hltz : ¬ (i : Int) < (m : Int) := by omega
            have HC := hidI (turn23 _ A0 n0 c0 x0 a1 (((H.out.below HB3.out).more HB3.out.size |>.below BW.out).more BW.out.size) (by omega) (by omega) (by omega))
            rw [← HLL.out] at HC
            by_cases h0 : m = 0
            · have ht : turnL l a1 = 0 := by unfold turnL; rw [if_pos (by rw [HM.out]; exact h0)]
              rw [ht] at HC
              have hmz : ¬ (0 : Int) < (m : Int) := by omega
              go_wp2_with (go_at_call 23; refine HC.out.mono ?_; rintro e w' ⟨rfl, hb'⟩)
              go_ret
              exact ⟨rfl, belowT HB3.out (belowT BW.out hb')⟩
            · have hmz : (0 : Int) < (m : Int) := by omega
              go_wp2_with fail
              go_ret
              exact ⟨rfl, belowT HB3.out BW.out⟩
      · go_wp2_with fail
        all_goals (first | (exfalso; omega) | (go_ret; exact ⟨rfl, HB2.out⟩))
  · have g1 : (100 : Int) < (n0 : Int) := by omega
    go_wp2_with fail
    go_ret
    exact ⟨rfl, HB1.out⟩

theorem fits {H : Type} : ∀ ds : List (DataW H), ds.length = Try.f8.params.toList.length → Rows.schedFairSpec.fn H ds = { results := [.lit (.bool true)], args := ds } := by
  intro ds h
  rw [Try.params8] at h
  match ds, h with
  | [e0, e1], _ => rfl

set_option maxRecDepth 100000 in
theorem lifted (os : Os) (started : os.Started) (H : Type) (enc : TypeId × Value → H) :
    ReturnsInHanded {} Try.checked os 8 .any (Rows.schedFairSpec.pre6 enc Try.prog Try.f8 Rows.schedFairRow.domain false) (Rows.schedFairSpec.post enc Try.prog Try.f8 false true false false) := by
  refine returnsInHanded_of_change (C := Try.checked) own started (by kernel_rfl) Try.func8
    (ChangeSpec.witness6 (enc := enc) (C := Try.checked) false ⟨#[], #[.slice none 0 0, .int .i64 0], []⟩ 8 (by kernel_rfl) (by kernel_rfl) (by kernel_rfl) (by kernel_rfl)) ?_
  intro W base args ds gs before hval0 hW hcnd _
  have hval : ∀ (j : Nat) t v, Try.f8.params[j]? = some t → args[j]? = some v → Value.okWide Try.prog W .any base t v := hval0
  have hpost : ∀ W', Below W.heap.size W W' → Rows.schedFairSpec.post enc Try.prog Try.f8 false true false false W args (.bool true) W' := fun W' hb =>
    law_post rfl rfl Try.underlying4 laidOut (by kernel_rfl) fits hW hb
  obtain ⟨p, q, hA0, hV, rfl, hfz, hnd⟩ := hW
  have hA : DataW.TrodAll enc Try.prog W 0 (fun _ => true) true Try.f8.params.toList args.toList ds p := hA0
  rw [Try.params8] at hA hval
  obtain ⟨v0, vs0, d0, ds0, p0, q0, hargs, rfl, rfl, h0, r0⟩ := trodAll_cons hA
  obtain ⟨v1, vs1, d1, ds1, p1, q1, rfl, rfl, rfl, h1, r1⟩ := trodAll_cons r0
  obtain ⟨rfl, rfl, rfl⟩ := trodAll_nil r1
  obtain rfl : args = #[v0, v1] := by cases args; simp_all
  obtain ⟨A0, n0, c0, rfl⟩ := okWide_slice Try.underlying32 (hval 0 32 v0 rfl rfl)
  obtain ⟨fu0, fd0⟩ := h0
  obtain ⟨A0', n0', c0', x0, e0, T0⟩ := things_of_trod fd0
  obtain ⟨rfl, rfl, rfl⟩ : A0 = A0' ∧ n0 = n0' ∧ c0 = c0' := by simpa [Value.cells] using e0
  obtain ⟨a1, rfl, rfl, rfl, w1⟩ := open_int Try.underlying3 (hval 1 3 v1 rfl rfl) h1
  refine (walk A0 n0 c0 x0 a1 (by simpa [Lit.wf, IntKind.min, IntKind.max, IntKind.signed, IntKind.bits] using w1) W T0).mono fun e W' ⟨he, hg⟩ => ?_
  subst he
  exact ⟨_, rfl, hpost W' hg⟩

theorem over : Rows.schedFairRow.holds Try.pinned (OpenSpec.ofChange Rows.schedFairSpec) :=
  OpenClaim.holds_of_wide 8 Try.f8 rfl rfl rfl rfl rfl rfl rfl ⟨rfl, rfl, rfl, rfl, rfl⟩ rfl rfl rfl rfl rfl (by kernel_rfl) Try.func8 (by kernel_rfl)
    (of_decide_eq_true (by kernel_rfl)) (by unfold Func.isWrapper; first | (rw [if_pos (by decide +kernel)]; kernel_rfl) | (rw [if_neg (by decide +kernel)]; exact ⟨rfl, rfl⟩))
    (fun os started H enc _ => lifted os started H enc)

theorem proved : Rows.SchedFairSaid := over
end Go.Proofs.Ytpobkbedablfeaa.lawSchedFair
