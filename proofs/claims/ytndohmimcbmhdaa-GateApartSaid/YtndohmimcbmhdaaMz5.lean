/- Texts of this claim, one behind the other. -/
import Derived.Test.YtndohmimcbmhdaaMz4
set_option linter.unusedVariables false
set_option linter.unusedSimpArgs false
namespace Go.Proofs.Ytndohmimcbmhdaa
open Go.RowKit Go.Sort

theorem stably_length {l r : List (Int × Int)} (h : Stably l r) : l.length = r.length := (stably_perm h).length_eq

set_option maxRecDepth 100000 in
set_option maxHeartbeats 8000000 in
theorem symMergeC (N : Nat) (ih : SymSaid N) (w : World) (g len cap a m b : Nat) (p A B s : List (Int × Int)) (tl : List Value) (hr : Row w g (p ++ A ++ B ++ s) tl) (hlen : (p ++ A ++ B ++ s).length = len) (hP : p.length = a) (hAl : a + A.length = m) (hBl : m + B.length = b) (ham : a + 2 ≤ m) (hmb : m + 2 ≤ b) (hA : SortedC A) (hB : SortedC B)
    (hc : len ≤ cap) (hm : len ≤ 2305843009213693951) (hN : b ≤ a + (N + 1)) :
    Calls Try.prog 169 #[.slice (some ⟨g, 0, none⟩) len cap, .int .i64 a, .int .i64 m, .int .i64 b, .func (.func 94) #[] #[]] w fun e w' =>
      e = .returned (.tuple #[]) ∧ ∃ C, Row w' g (p ++ C ++ s) tl ∧ w.grownBy w' (some g) ∧ SortedC C ∧ Stably C (A ++ B) := by
  have hbl : b ≤ len := by simp at hlen; omega
  have hnone : (((m : Int) - (a : Int)) == 1) = false := by rw [beq_eq_false_iff_ne]; omega
  have hnone2 : (((b : Int) - (m : Int)) == 1) = false := by rw [beq_eq_false_iff_ne]; omega
  obtain ⟨mid, em, hmd1, hmd2⟩ : ∃ mid : Nat, ((a : Int) + (b : Int)) / 2 = (mid : Int) ∧ mid * 2 ≤ a + b ∧ a + b ≤ mid * 2 + 1 := ⟨(a + b) / 2, by omega, by omega, by omega⟩
  have HR := hid hr
  have HL := hid hlen
  have HP := hid hP
  have HAl := hid hAl
  have HBl := hid hBl
  have HA := hid hA
  have HB := hid hB
  have HF : ∀ st0 r0, Hid (FindC A B a mid st0 r0 st0 r0) := fun st0 r0 c x y hx hy h0 h1 => ⟨fun h => by omega, fun h => by omega⟩
  have mixed : Try.prog.follows .mixedOrders = true := by kernel_rfl
  clear hr hlen hP hAl hBl hA hB
  obtain ⟨st0, r0, hrange⟩ : ∃ st0 r0 : Nat, RangeC a m mid b st0 r0 := by
    by_cases h : mid < m
    · exact ⟨mid + m - b, mid, .inl ⟨h, by omega, rfl⟩⟩
    · exact ⟨a, m, .inr ⟨by omega, rfl, rfl⟩⟩
  have hst1 : a ≤ st0 ∧ r0 ≤ mid ∧ r0 ≤ m ∧ st0 ≤ r0 ∧ mid + m ≤ st0 + b := by rcases hrange with ⟨_, _, _⟩ | ⟨_, _, _⟩ <;> omega
  obtain ⟨hs1, hs2, hs3, hs4, hs5⟩ := hst1
  have HRg := hid hrange
  by_cases hmm : mid < m
  · have hmz : (mid : Int) < (m : Int) := by omega
    have hrg2 : st0 + b = mid + m ∧ r0 = mid := by rcases hrange with ⟨_, _, _⟩ | ⟨_, _, _⟩ <;> omega
    obtain ⟨hrg3, hrg4⟩ := hrg2
    have hrg5 : r0 ≤ mid := by omega
    have hrg6 : mid ≤ r0 := by omega
    clear hrg4 hrange
    go_enter Try.func169, Try.ntmps169
    go_wp2_with fail
    go_loopw [20, 21] (fun vi vj wr => ∃ st r : Nat, vi = .int .i64 st ∧ vj = .int .i64 r ∧ st0 ≤ st ∧ st ≤ r ∧ r ≤ r0 ∧ Hid (FindC A B a mid st0 r0 st r) ∧ Hid (Row wr g (p ++ A ++ B ++ s) tl) ∧ Hid (w.grownBy wr (some g))) (fun vi vj _ => (intOf vj).toNat - (intOf vi).toNat)
    case atStart => exact ⟨st0, r0, by congr 1; omega, by congr 1; omega, by omega, by omega, by omega, HF st0 r0, HR, only_refl _ _⟩
    case round =>
      obtain ⟨st, r, rfl, rfl, hi, hij, hjb, HFi, HRi, HGi⟩ := hrel
      by_cases hlt : st < r
      · have hltz : (st : Int) < (r : Int) := by omega
        obtain ⟨c, eh, h1, h2⟩ : ∃ c : Nat, ((st : Int) + (r : Int)) / 2 = (c : Int) ∧ st ≤ c ∧ c < r := ⟨(st + r) / 2, by omega, by omega, by omega⟩
        obtain ⟨q, eq, hq1, hq2⟩ : ∃ q : Nat, ((mid : Int) + (m : Int) - 1 - (c : Int)) = (q : Int) ∧ q + c + 1 = mid + m ∧ q < b := ⟨mid + m - 1 - c, by omega, by omega, by omega⟩
        have hl1 := HAl.out
        have hl2 := HBl.out
        obtain ⟨x, hx⟩ : ∃ x, A[c - a]? = some x := ⟨_, List.getElem?_eq_getElem (by omega)⟩
        obtain ⟨y, hy⟩ : ∃ y, B[mid - 1 - c]? = some y := ⟨_, List.getElem?_eq_getElem (by omega)⟩
        have e0 : (p ++ A ++ B ++ s)[c]? = some x := by
          have hp := HP.out
          rw [List.append_assoc, List.append_assoc, List.getElem?_append_right (by omega), List.getElem?_append_left (by omega)]
          rw [hp]; exact hx
        have e1 : (p ++ A ++ B ++ s)[q]? = some y := by
          have hp := HP.out
          have e : q - (p ++ A).length = mid - 1 - c := by simp; omega
          rw [List.append_assoc, List.getElem?_append_right (by simp; omega), e, List.getElem?_append_left (by omega)]
          exact hy
        have c0 : ∀ n os, (grow (wr.drewN n) os).cell? ⟨g, c * 2, none⟩ = some (.int .u64 x.1) := fun n os => (HRi.out.grow n os).cell0 e0
        have c1 : ∀ n os, (grow (wr.drewN n) os).cell? ⟨g, c * 2 + 1, none⟩ = some (.int .i64 x.2) := fun n os => (HRi.out.grow n os).cell1 e0
        have c2 : ∀ n os, (grow (wr.drewN n) os).cell? ⟨g, q * 2, none⟩ = some (.int .u64 y.1) := fun n os => (HRi.out.grow n os).cell0 e1
        have c3 : ∀ n os, (grow (wr.drewN n) os).cell? ⟨g, q * 2 + 1, none⟩ = some (.int .i64 y.2) := fun n os => (HRi.out.grow n os).cell1 e1
        have hz1 : (c : Int) < (len : Int) := by omega
        have hz2 : (q : Int) < (len : Int) := by omega
        have hz3 : (0 : Int) ≤ (c : Int) := by omega
        have hz4 : (0 : Int) ≤ (q : Int) := by omega
        have eqw : IntKind.i64.wrap ((mid : Int) + (m : Int) - 1 - (c : Int)) = (q : Int) := by rw [IntKind.wrap_i64]; omega
        have eqw2 : IntKind.i64.wrap (q : Int) = (q : Int) := by rw [IntKind.wrap_i64]; omega
        have X := hid hx
        have Y := hid hy
        clear hl1 hl2 hx hy e0 e1
        go_wp2_with fail
        by_cases hless : y.1 < x.1
        · have hcmp : cmpI y.1 x.1 < 0 := cmpI_neg.2 hless
          go_quiet_grown (first | (go_at_call 94; refine Calls.grown_of (cmp94 y x _)))
          go_wp2_with fail
          have RQ := HRi.out.grow nq osq
          have GQ := only_below HGi.out (grown_below nq osq)
          go_roundw
          case measure => simp [intOf] <;> omega
          case rel => exact ⟨st, c, by first | rfl | go_num, by first | rfl | go_num, by omega, by omega, by omega, findC_high HA.out HB.out HFi.out X.out Y.out (by omega) (by omega) (by omega) hless, RQ, GQ⟩
        · have hcmp : ¬ cmpI y.1 x.1 < 0 := fun hh => hless (cmpI_neg.1 hh)
          go_quiet_grown (first | (go_at_call 94; refine Calls.grown_of (cmp94 y x _)))
          go_wp2_with fail
          have RQ := HRi.out.grow nq osq
          have GQ := only_below HGi.out (grown_below nq osq)
          go_roundw
          case measure => simp [intOf] <;> omega
          case rel => exact ⟨c + 1, r, by go_num, by first | rfl | go_num, by omega, by omega, by omega, findC_low HA.out HB.out HFi.out X.out Y.out (by omega) (by omega) (by omega) (by omega), RQ, GQ⟩
      · have hltz : ¬ (st : Int) < (r : Int) := by omega
        obtain rfl : st = r := by omega
        obtain ⟨A1, A2, B1, B2, hAA, hBB, la1, lb1, F1, F2⟩ := split_facts HA.out HB.out HAl.out HBl.out hmd1 hmd2 HRg.out hi hjb HFi.out
        have la := HAl.out
        have lb := HBl.out
        have lp := HP.out
        subst hAA hBB
        rw [List.length_append] at la lb
        obtain ⟨en, een, hen⟩ : ∃ en : Nat, ((mid : Int) + (m : Int) - (st : Int)) = (en : Int) ∧ en + st = mid + m := ⟨mid + m - st, by omega, by omega⟩
        have een2 : IntKind.i64.wrap ((mid : Int) + (m : Int) - (st : Int)) = (en : Int) := by rw [IntKind.wrap_i64]; omega
        have hL0 : (p ++ A1 ++ A2 ++ B1 ++ (B2 ++ s)).length = len := by have := HL.out; simp at this ⊢; omega
        have hR0 : Row wr g (p ++ A1 ++ A2 ++ B1 ++ (B2 ++ s)) tl := by have := HRi.out; simpa using this
        have la2 : st + A2.length = m := by omega
        have lb2 : m + B1.length = en := by omega
        have lpa : (p ++ A1).length = st := by simp; omega
        have HS : Hid (∀ w1, Row w1 g (p ++ A1 ++ B1 ++ (A2 ++ B2 ++ s)) tl → (p ++ A1 ++ B1 ++ (A2 ++ B2 ++ s)).length = len) := by
          intro w1 _; simp at hL0 ⊢; omega
        have LLp := hid lp
        have LA1 := hid la1
        have LB1 := hid lb1
        have LB2 : Hid (en + B2.length = b) := by show _ = _; omega
        have LA2 := hid la2
        have SA := hid HA.out
        have SB := hid HB.out
        have FF1 := hid F1
        have FF2 := hid F2
        -- the rotation
        by_cases hrot : st < m ∧ m < en
        · obtain ⟨hr1, hr2⟩ := hrot
          have HC := hid (rotate180 wr g len cap st m en (p ++ A1) A2 B1 (B2 ++ s) tl hR0 hL0 lpa la2 lb2 hr1 hr2 hc (by omega) (.func (.func 94) #[] #[]))
          have hrz1 : (st : Int) < (m : Int) := by omega
          have hrz2 : (m : Int) < (en : Int) := by omega
          clear la lb lp la1 lb1 la2 lb2 lpa hL0 hR0 F1 F2 HFi HRi
          go_wp2_with fail
          refine HC.out.mono ?_
          rintro e w1 ⟨rfl, hR1, hG1⟩
          have HR1 : Hid (Row w1 g (p ++ A1 ++ B1 ++ (A2 ++ B2 ++ s)) tl) := by show Row _ _ _ _; simpa using hR1
          have HG1 : Hid (w.grownBy w1 (some g)) := only_trans HGi.out hG1
          clear hR1 hG1 HC HGi
          -- the left half
          by_cases hleft : a < st ∧ st < mid
          · obtain ⟨hl1, hl2⟩ := hleft
            have HC1 := hid (ih w1 g len cap a st mid p A1 B1 (A2 ++ B2 ++ s) tl HR1.out (HS.out w1 HR1.out) LLp.out (by have := LA1.out; omega) (by have := LB1.out; omega) hl1 hl2 SA.out.left SB.out.left hc hm (by omega))
            have hlz1 : (a : Int) < (st : Int) := by omega
            have hlz2 : (st : Int) < (mid : Int) := by omega
            go_wp2_with fail
            all_goals
              refine HC1.out.mono ?_
              rintro e w2 ⟨rfl, C1, hR2, hG2, hS2, hT2⟩
              have HR2 := hid hR2
              have HG2 : Hid (w.grownBy w2 (some g)) := only_trans HG1.out hG2
              have HS2 := hid hS2
              have HT2 := hid hT2
              clear hR2 hG2 hS2 hT2 HC1 HR1 HG1
              -- the right half
              have LC : Hid ((p ++ C1).length = mid) := by
                show _ = _
                have h1 := LLp.out; have h2 := LA1.out; have h3 := LB1.out
                have h4 := HS.out
                have : C1.length = (A1 ++ B1).length := stably_length HT2.out
                simp at this ⊢; omega
              by_cases hright : mid < en ∧ en < b
              · obtain ⟨hr1, hr2⟩ := hright
                have HL3 : Hid ((p ++ C1 ++ A2 ++ B2 ++ s).length = len) := by
                  show _ = _
                  have h1 := LLp.out; have h2 := LA1.out; have h3 := LB1.out; have h4 := LC.out; have h5 := HL.out
                  simp at h4 h5 ⊢; omega
                have HC2 := hid (ih w2 g len cap mid en b (p ++ C1) A2 B2 s tl (by have := HR2.out; simpa using this) HL3.out LC.out (by have := LA2.out; omega) LB2.out hr1 hr2 SA.out.right SB.out.right hc hm (by omega))
                have hrrz1 : (mid : Int) < (en : Int) := by omega
                have hrrz2 : (en : Int) < (b : Int) := by omega
                go_wp2_with fail
                all_goals
                  refine HC2.out.mono ?_
                  rintro e w3 ⟨rfl, C2, hR3, hG3, hS3, hT3⟩
                  have HR3 := hid hR3
                  have HG3 : Hid (w.grownBy w3 (some g)) := only_trans HG2.out hG3
                  have HS3 := hid hS3
                  have HT3 := hid hT3
                  clear hR3 hG3 hS3 hT3 HC2 HR2 HG2
                  go_wp2_with fail
                  all_goals
                    go_end0
                    obtain ⟨k1, k2⟩ := merge_whole SA.out SB.out FF1.out FF2.out HS2.out HS3.out HT2.out HT3.out
                    exact ⟨rfl, C1 ++ C2, by have := HR3.out; simpa using this, HG3.out, k1, by simpa [List.append_assoc] using k2⟩
              · have HSS : Hid (SortedC (A2 ++ B2)) := by
                  show SortedC _
                  have := LA2.out; have := LB2.out
                  exact short_sorted SA.out.right SB.out.right (by omega)
                by_cases hr1 : mid < en
                · have hrrz1 : (mid : Int) < (en : Int) := by omega
                  have hrrz2 : ¬ (en : Int) < (b : Int) := by omega
                  go_wp2_with fail
                  all_goals
                    go_end0
                    obtain ⟨k1, k2⟩ := merge_whole SA.out SB.out FF1.out FF2.out HS2.out HSS.out HT2.out (Stably.refl _)
                    exact ⟨rfl, C1 ++ (A2 ++ B2), by have := HR2.out; simpa using this, HG2.out, k1, by simpa [List.append_assoc] using k2⟩
                · have hrrz1 : ¬ (mid : Int) < (en : Int) := by omega
                  go_wp2_with fail
                  all_goals
                    go_end0
                    obtain ⟨k1, k2⟩ := merge_whole SA.out SB.out FF1.out FF2.out HS2.out HSS.out HT2.out (Stably.refl _)
                    exact ⟨rfl, C1 ++ (A2 ++ B2), by have := HR2.out; simpa using this, HG2.out, k1, by simpa [List.append_assoc] using k2⟩
          · obtain ⟨w2, hw2⟩ : ∃ w2, w2 = w1 := ⟨_, rfl⟩
            obtain ⟨C1, hC1⟩ : ∃ C1, C1 = A1 ++ B1 := ⟨_, rfl⟩
            have HR2 : Hid (Row w1 g (p ++ C1 ++ (A2 ++ B2 ++ s)) tl) := by show Row _ _ _ _; rw [hC1]; simpa using HR1.out
            have HS2 : Hid (SortedC C1) := by
              show SortedC C1
              rw [hC1]
              have := LA1.out; have := LB1.out
              exact short_sorted SA.out.left SB.out.left (by omega)
            have HT2 : Hid (Stably C1 (A1 ++ B1)) := by show Stably _ _; rw [hC1]; exact Stably.refl _
            clear hC1
            have HG2 := HG1
            clear HR1 HG1
            subst hw2
            by_cases hl1 : a < st
            · have hlz1 : (a : Int) < (st : Int) := by omega
              have hlz2 : ¬ (st : Int) < (mid : Int) := by omega
              -- the right half
              have LC : Hid ((p ++ C1).length = mid) := by
                show _ = _
                have h1 := LLp.out; have h2 := LA1.out; have h3 := LB1.out
                have h4 := HS.out
                have : C1.length = (A1 ++ B1).length := stably_length HT2.out
                simp at this ⊢; omega
              by_cases hright : mid < en ∧ en < b
              · obtain ⟨hr1, hr2⟩ := hright
                have HL3 : Hid ((p ++ C1 ++ A2 ++ B2 ++ s).length = len) := by
                  show _ = _
                  have h1 := LLp.out; have h2 := LA1.out; have h3 := LB1.out; have h4 := LC.out; have h5 := HL.out
                  simp at h4 h5 ⊢; omega
                have HC2 := hid (ih w2 g len cap mid en b (p ++ C1) A2 B2 s tl (by have := HR2.out; simpa using this) HL3.out LC.out (by have := LA2.out; omega) LB2.out hr1 hr2 SA.out.right SB.out.right hc hm (by omega))
                have hrrz1 : (mid : Int) < (en : Int) := by omega
                have hrrz2 : (en : Int) < (b : Int) := by omega
                go_wp2_with fail
                all_goals
                  refine HC2.out.mono ?_
                  rintro e w3 ⟨rfl, C2, hR3, hG3, hS3, hT3⟩
                  have HR3 := hid hR3
                  have HG3 : Hid (w.grownBy w3 (some g)) := only_trans HG2.out hG3
                  have HS3 := hid hS3
                  have HT3 := hid hT3
                  clear hR3 hG3 hS3 hT3 HC2 HR2 HG2
                  go_wp2_with fail
                  all_goals
                    go_end0
                    obtain ⟨k1, k2⟩ := merge_whole SA.out SB.out FF1.out FF2.out HS2.out HS3.out HT2.out HT3.out
                    exact ⟨rfl, C1 ++ C2, by have := HR3.out; simpa using this, HG3.out, k1, by simpa [List.append_assoc] using k2⟩
              · have HSS : Hid (SortedC (A2 ++ B2)) := by
                  show SortedC _
                  have := LA2.out; have := LB2.out
                  exact short_sorted SA.out.right SB.out.right (by omega)
                by_cases hr1 : mid < en
                · have hrrz1 : (mid : Int) < (en : Int) := by omega
                  have hrrz2 : ¬ (en : Int) < (b : Int) := by omega
                  go_wp2_with fail
                  all_goals
                    go_end0
                    obtain ⟨k1, k2⟩ := merge_whole SA.out SB.out FF1.out FF2.out HS2.out HSS.out HT2.out (Stably.refl _)
                    exact ⟨rfl, C1 ++ (A2 ++ B2), by have := HR2.out; simpa using this, HG2.out, k1, by simpa [List.append_assoc] using k2⟩
                · have hrrz1 : ¬ (mid : Int) < (en : Int) := by omega
                  go_wp2_with fail
                  all_goals
                    go_end0
                    obtain ⟨k1, k2⟩ := merge_whole SA.out SB.out FF1.out FF2.out HS2.out HSS.out HT2.out (Stably.refl _)
                    exact ⟨rfl, C1 ++ (A2 ++ B2), by have := HR2.out; simpa using this, HG2.out, k1, by simpa [List.append_assoc] using k2⟩
            · have hlz1 : ¬ (a : Int) < (st : Int) := by omega
              -- the right half
              have LC : Hid ((p ++ C1).length = mid) := by
                show _ = _
                have h1 := LLp.out; have h2 := LA1.out; have h3 := LB1.out
                have h4 := HS.out
                have : C1.length = (A1 ++ B1).length := stably_length HT2.out
                simp at this ⊢; omega
              by_cases hright : mid < en ∧ en < b
              · obtain ⟨hr1, hr2⟩ := hright
                have HL3 : Hid ((p ++ C1 ++ A2 ++ B2 ++ s).length = len) := by
                  show _ = _
                  have h1 := LLp.out; have h2 := LA1.out; have h3 := LB1.out; have h4 := LC.out; have h5 := HL.out
                  simp at h4 h5 ⊢; omega
                have HC2 := hid (ih w2 g len cap mid en b (p ++ C1) A2 B2 s tl (by have := HR2.out; simpa using this) HL3.out LC.out (by have := LA2.out; omega) LB2.out hr1 hr2 SA.out.right SB.out.right hc hm (by omega))
                have hrrz1 : (mid : Int) < (en : Int) := by omega
                have hrrz2 : (en : Int) < (b : Int) := by omega
                go_wp2_with fail
                all_goals
                  refine HC2.out.mono ?_
                  rintro e w3 ⟨rfl, C2, hR3, hG3, hS3, hT3⟩
                  have HR3 := hid hR3
                  have HG3 : Hid (w.grownBy w3 (some g)) := only_trans HG2.out hG3
                  have HS3 := hid hS3
                  have HT3 := hid hT3
                  clear hR3 hG3 hS3 hT3 HC2 HR2 HG2
                  go_wp2_with fail
                  all_goals
                    go_end0
                    obtain ⟨k1, k2⟩ := merge_whole SA.out SB.out FF1.out FF2.out HS2.out HS3.out HT2.out HT3.out
                    exact ⟨rfl, C1 ++ C2, by have := HR3.out; simpa using this, HG3.out, k1, by simpa [List.append_assoc] using k2⟩
              · have HSS : Hid (SortedC (A2 ++ B2)) := by
                  show SortedC _
                  have := LA2.out; have := LB2.out
                  exact short_sorted SA.out.right SB.out.right (by omega)
                by_cases hr1 : mid < en
                · have hrrz1 : (mid : Int) < (en : Int) := by omega
                  have hrrz2 : ¬ (en : Int) < (b : Int) := by omega
                  go_wp2_with fail
                  all_goals
                    go_end0
                    obtain ⟨k1, k2⟩ := merge_whole SA.out SB.out FF1.out FF2.out HS2.out HSS.out HT2.out (Stably.refl _)
                    exact ⟨rfl, C1 ++ (A2 ++ B2), by have := HR2.out; simpa using this, HG2.out, k1, by simpa [List.append_assoc] using k2⟩
                · have hrrz1 : ¬ (mid : Int) < (en : Int) := by omega
                  go_wp2_with fail
                  all_goals
                    go_end0
                    obtain ⟨k1, k2⟩ := merge_whole SA.out SB.out FF1.out FF2.out HS2.out HSS.out HT2.out (Stably.refl _)
                    exact ⟨rfl, C1 ++ (A2 ++ B2), by have := HR2.out; simpa using this, HG2.out, k1, by simpa [List.append_assoc] using k2⟩
        · have HR1 : Hid (Row wr g (p ++ A1 ++ B1 ++ (A2 ++ B2 ++ s)) tl) := by
            show Row _ _ _ _
            have : A2 = [] ∨ B1 = [] := by
              by_cases h : st < m
              · exact .inr (List.eq_nil_of_length_eq_zero (by omega))
              · exact .inl (List.eq_nil_of_length_eq_zero (by omega))
            rcases this with h | h <;> subst h <;> simpa using hR0
          have HG1 := HGi
          clear la lb lp la1 lb1 la2 lb2 lpa hL0 hR0 F1 F2 HFi HRi
          obtain ⟨w1, hw1⟩ : ∃ w1, w1 = wr := ⟨_, rfl⟩
          subst hw1
          by_cases hr1 : st < m
          · have hrz1 : (st : Int) < (m : Int) := by omega
            have hrz2 : ¬ (m : Int) < (en : Int) := by omega
            -- the left half
            by_cases hleft : a < st ∧ st < mid
            · obtain ⟨hl1, hl2⟩ := hleft
              have HC1 := hid (ih w1 g len cap a st mid p A1 B1 (A2 ++ B2 ++ s) tl HR1.out (HS.out w1 HR1.out) LLp.out (by have := LA1.out; omega) (by have := LB1.out; omega) hl1 hl2 SA.out.left SB.out.left hc hm (by omega))
              have hlz1 : (a : Int) < (st : Int) := by omega
              have hlz2 : (st : Int) < (mid : Int) := by omega
              go_wp2_with fail
              all_goals
                refine HC1.out.mono ?_
                rintro e w2 ⟨rfl, C1, hR2, hG2, hS2, hT2⟩
                have HR2 := hid hR2
                have HG2 : Hid (w.grownBy w2 (some g)) := only_trans HG1.out hG2
                have HS2 := hid hS2
                have HT2 := hid hT2
                clear hR2 hG2 hS2 hT2 HC1 HR1 HG1
                -- the right half
                have LC : Hid ((p ++ C1).length = mid) := by
                  show _ = _
                  have h1 := LLp.out; have h2 := LA1.out; have h3 := LB1.out
                  have h4 := HS.out
                  have : C1.length = (A1 ++ B1).length := stably_length HT2.out
                  simp at this ⊢; omega
                by_cases hright : mid < en ∧ en < b
                · obtain ⟨hr1, hr2⟩ := hright
                  have HL3 : Hid ((p ++ C1 ++ A2 ++ B2 ++ s).length = len) := by
                    show _ = _
                    have h1 := LLp.out; have h2 := LA1.out; have h3 := LB1.out; have h4 := LC.out; have h5 := HL.out
                    simp at h4 h5 ⊢; omega
                  have HC2 := hid (ih w2 g len cap mid en b (p ++ C1) A2 B2 s tl (by have := HR2.out; simpa using this) HL3.out LC.out (by have := LA2.out; omega) LB2.out hr1 hr2 SA.out.right SB.out.right hc hm (by omega))
                  have hrrz1 : (mid : Int) < (en : Int) := by omega
                  have hrrz2 : (en : Int) < (b : Int) := by omega
                  go_wp2_with fail
                  all_goals
                    refine HC2.out.mono ?_
                    rintro e w3 ⟨rfl, C2, hR3, hG3, hS3, hT3⟩
                    have HR3 := hid hR3
                    have HG3 : Hid (w.grownBy w3 (some g)) := only_trans HG2.out hG3
                    have HS3 := hid hS3
                    have HT3 := hid hT3
                    clear hR3 hG3 hS3 hT3 HC2 HR2 HG2
                    go_wp2_with fail
                    all_goals
                      go_end0
                      obtain ⟨k1, k2⟩ := merge_whole SA.out SB.out FF1.out FF2.out HS2.out HS3.out HT2.out HT3.out
                      exact ⟨rfl, C1 ++ C2, by have := HR3.out; simpa using this, HG3.out, k1, by simpa [List.append_assoc] using k2⟩
                · have HSS : Hid (SortedC (A2 ++ B2)) := by
                    show SortedC _
                    have := LA2.out; have := LB2.out
                    exact short_sorted SA.out.right SB.out.right (by omega)
                  by_cases hr1 : mid < en
                  · have hrrz1 : (mid : Int) < (en : Int) := by omega
                    have hrrz2 : ¬ (en : Int) < (b : Int) := by omega
                    go_wp2_with fail
                    all_goals
                      go_end0
                      obtain ⟨k1, k2⟩ := merge_whole SA.out SB.out FF1.out FF2.out HS2.out HSS.out HT2.out (Stably.refl _)
                      exact ⟨rfl, C1 ++ (A2 ++ B2), by have := HR2.out; simpa using this, HG2.out, k1, by simpa [List.append_assoc] using k2⟩
                  · have hrrz1 : ¬ (mid : Int) < (en : Int) := by omega
                    go_wp2_with fail
                    all_goals
                      go_end0
                      obtain ⟨k1, k2⟩ := merge_whole SA.out SB.out FF1.out FF2.out HS2.out HSS.out HT2.out (Stably.refl _)
                      exact ⟨rfl, C1 ++ (A2 ++ B2), by have := HR2.out; simpa using this, HG2.out, k1, by simpa [List.append_assoc] using k2⟩
            · obtain ⟨w2, hw2⟩ : ∃ w2, w2 = w1 := ⟨_, rfl⟩
              obtain ⟨C1, hC1⟩ : ∃ C1, C1 = A1 ++ B1 := ⟨_, rfl⟩
              have HR2 : Hid (Row w1 g (p ++ C1 ++ (A2 ++ B2 ++ s)) tl) := by show Row _ _ _ _; rw [hC1]; simpa using HR1.out
              have HS2 : Hid (SortedC C1) := by
                show SortedC C1
                rw [hC1]
                have := LA1.out; have := LB1.out
                exact short_sorted SA.out.left SB.out.left (by omega)
              have HT2 : Hid (Stably C1 (A1 ++ B1)) := by show Stably _ _; rw [hC1]; exact Stably.refl _
              clear hC1
              have HG2 := HG1
              clear HR1 HG1
              subst hw2
              by_cases hl1 : a < st
              · have hlz1 : (a : Int) < (st : Int) := by omega
                have hlz2 : ¬ (st : Int) < (mid : Int) := by omega
                -- the right half
                have LC : Hid ((p ++ C1).length = mid) := by
                  show _ = _
                  have h1 := LLp.out; have h2 := LA1.out; have h3 := LB1.out
                  have h4 := HS.out
                  have : C1.length = (A1 ++ B1).length := stably_length HT2.out
                  simp at this ⊢; omega
                by_cases hright : mid < en ∧ en < b
                · obtain ⟨hr1, hr2⟩ := hright
                  have HL3 : Hid ((p ++ C1 ++ A2 ++ B2 ++ s).length = len) := by
                    show _ = _
                    have h1 := LLp.out; have h2 := LA1.out; have h3 := LB1.out; have h4 := LC.out; have h5 := HL.out
                    simp at h4 h5 ⊢; omega
                  have HC2 := hid (ih w2 g len cap mid en b (p ++ C1) A2 B2 s tl (by have := HR2.out; simpa using this) HL3.out LC.out (by have := LA2.out; omega) LB2.out hr1 hr2 SA.out.right SB.out.right hc hm (by omega))
                  have hrrz1 : (mid : Int) < (en : Int) := by omega
                  have hrrz2 : (en : Int) < (b : Int) := by omega
                  go_wp2_with fail
                  all_goals
                    refine HC2.out.mono ?_
                    rintro e w3 ⟨rfl, C2, hR3, hG3, hS3, hT3⟩
                    have HR3 := hid hR3
                    have HG3 : Hid (w.grownBy w3 (some g)) := only_trans HG2.out hG3
                    have HS3 := hid hS3
                    have HT3 := hid hT3
                    clear hR3 hG3 hS3 hT3 HC2 HR2 HG2
                    go_wp2_with fail
                    all_goals
                      go_end0
                      obtain ⟨k1, k2⟩ := merge_whole SA.out SB.out FF1.out FF2.out HS2.out HS3.out HT2.out HT3.out
                      exact ⟨rfl, C1 ++ C2, by have := HR3.out; simpa using this, HG3.out, k1, by simpa [List.append_assoc] using k2⟩
                · have HSS : Hid (SortedC (A2 ++ B2)) := by
                    show SortedC _
                    have := LA2.out; have := LB2.out
                    exact short_sorted SA.out.right SB.out.right (by omega)
                  by_cases hr1 : mid < en
                  · have hrrz1 : (mid : Int) < (en : Int) := by omega
                    have hrrz2 : ¬ (en : Int) < (b : Int) := by omega
                    go_wp2_with fail
                    all_goals
                      go_end0
                      obtain ⟨k1, k2⟩ := merge_whole SA.out SB.out FF1.out FF2.out HS2.out HSS.out HT2.out (Stably.refl _)
                      exact ⟨rfl, C1 ++ (A2 ++ B2), by have := HR2.out; simpa using this, HG2.out, k1, by simpa [List.append_assoc] using k2⟩
                  · have hrrz1 : ¬ (mid : Int) < (en : Int) := by omega
                    go_wp2_with fail
                    all_goals
                      go_end0
                      obtain ⟨k1, k2⟩ := merge_whole SA.out SB.out FF1.out FF2.out HS2.out HSS.out HT2.out (Stably.refl _)
                      exact ⟨rfl, C1 ++ (A2 ++ B2), by have := HR2.out; simpa using this, HG2.out, k1, by simpa [List.append_assoc] using k2⟩
              · have hlz1 : ¬ (a : Int) < (st : Int) := by omega
                -- the right half
                have LC : Hid ((p ++ C1).length = mid) := by
                  show _ = _
                  have h1 := LLp.out; have h2 := LA1.out; have h3 := LB1.out
                  have h4 := HS.out
                  have : C1.length = (A1 ++ B1).length := stably_length HT2.out
                  simp at this ⊢; omega
                by_cases hright : mid < en ∧ en < b
                · obtain ⟨hr1, hr2⟩ := hright
                  have HL3 : Hid ((p ++ C1 ++ A2 ++ B2 ++ s).length = len) := by
                    show _ = _
                    have h1 := LLp.out; have h2 := LA1.out; have h3 := LB1.out; have h4 := LC.out; have h5 := HL.out
                    simp at h4 h5 ⊢; omega
                  have HC2 := hid (ih w2 g len cap mid en b (p ++ C1) A2 B2 s tl (by have := HR2.out; simpa using this) HL3.out LC.out (by have := LA2.out; omega) LB2.out hr1 hr2 SA.out.right SB.out.right hc hm (by omega))
                  have hrrz1 : (mid : Int) < (en : Int) := by omega
                  have hrrz2 : (en : Int) < (b : Int) := by omega
                  go_wp2_with fail
                  all_goals
                    refine HC2.out.mono ?_
                    rintro e w3 ⟨rfl, C2, hR3, hG3, hS3, hT3⟩
                    have HR3 := hid hR3
                    have HG3 : Hid (w.grownBy w3 (some g)) := only_trans HG2.out hG3
                    have HS3 := hid hS3
                    have HT3 := hid hT3
                    clear hR3 hG3 hS3 hT3 HC2 HR2 HG2
                    go_wp2_with fail
                    all_goals
                      go_end0
                      obtain ⟨k1, k2⟩ := merge_whole SA.out SB.out FF1.out FF2.out HS2.out HS3.out HT2.out HT3.out
                      exact ⟨rfl, C1 ++ C2, by have := HR3.out; simpa using this, HG3.out, k1, by simpa [List.append_assoc] using k2⟩
                · have HSS : Hid (SortedC (A2 ++ B2)) := by
                    show SortedC _
                    have := LA2.out; have := LB2.out
                    exact short_sorted SA.out.right SB.out.right (by omega)
                  by_cases hr1 : mid < en
                  · have hrrz1 : (mid : Int) < (en : Int) := by omega
                    have hrrz2 : ¬ (en : Int) < (b : Int) := by omega
                    go_wp2_with fail
                    all_goals
                      go_end0
                      obtain ⟨k1, k2⟩ := merge_whole SA.out SB.out FF1.out FF2.out HS2.out HSS.out HT2.out (Stably.refl _)
                      exact ⟨rfl, C1 ++ (A2 ++ B2), by have := HR2.out; simpa using this, HG2.out, k1, by simpa [List.append_assoc] using k2⟩
                  · have hrrz1 : ¬ (mid : Int) < (en : Int) := by omega
                    go_wp2_with fail
                    all_goals
                      go_end0
                      obtain ⟨k1, k2⟩ := merge_whole SA.out SB.out FF1.out FF2.out HS2.out HSS.out HT2.out (Stably.refl _)
                      exact ⟨rfl, C1 ++ (A2 ++ B2), by have := HR2.out; simpa using this, HG2.out, k1, by simpa [List.append_assoc] using k2⟩
          · have hrz1 : ¬ (st : Int) < (m : Int) := by omega
            -- the left half
            by_cases hleft : a < st ∧ st < mid
            · obtain ⟨hl1, hl2⟩ := hleft
              have HC1 := hid (ih w1 g len cap a st mid p A1 B1 (A2 ++ B2 ++ s) tl HR1.out (HS.out w1 HR1.out) LLp.out (by have := LA1.out; omega) (by have := LB1.out; omega) hl1 hl2 SA.out.left SB.out.left hc hm (by omega))
              have hlz1 : (a : Int) < (st : Int) := by omega
              have hlz2 : (st : Int) < (mid : Int) := by omega
              go_wp2_with fail
              all_goals
                refine HC1.out.mono ?_
                rintro e w2 ⟨rfl, C1, hR2, hG2, hS2, hT2⟩
                have HR2 := hid hR2
                have HG2 : Hid (w.grownBy w2 (some g)) := only_trans HG1.out hG2
                have HS2 := hid hS2
                have HT2 := hid hT2
                clear hR2 hG2 hS2 hT2 HC1 HR1 HG1
                -- the right half
                have LC : Hid ((p ++ C1).length = mid) := by
                  show _ = _
                  have h1 := LLp.out; have h2 := LA1.out; have h3 := LB1.out
                  have h4 := HS.out
                  have : C1.length = (A1 ++ B1).length := stably_length HT2.out
                  simp at this ⊢; omega
                by_cases hright : mid < en ∧ en < b
                · obtain ⟨hr1, hr2⟩ := hright
                  have HL3 : Hid ((p ++ C1 ++ A2 ++ B2 ++ s).length = len) := by
                    show _ = _
                    have h1 := LLp.out; have h2 := LA1.out; have h3 := LB1.out; have h4 := LC.out; have h5 := HL.out
                    simp at h4 h5 ⊢; omega
                  have HC2 := hid (ih w2 g len cap mid en b (p ++ C1) A2 B2 s tl (by have := HR2.out; simpa using this) HL3.out LC.out (by have := LA2.out; omega) LB2.out hr1 hr2 SA.out.right SB.out.right hc hm (by omega))
                  have hrrz1 : (mid : Int) < (en : Int) := by omega
                  have hrrz2 : (en : Int) < (b : Int) := by omega
                  go_wp2_with fail
                  all_goals
                    refine HC2.out.mono ?_
                    rintro e w3 ⟨rfl, C2, hR3, hG3, hS3, hT3⟩
                    have HR3 := hid hR3
                    have HG3 : Hid (w.grownBy w3 (some g)) := only_trans HG2.out hG3
                    have HS3 := hid hS3
                    have HT3 := hid hT3
                    clear hR3 hG3 hS3 hT3 HC2 HR2 HG2
                    go_wp2_with fail
                    all_goals
                      go_end0
                      obtain ⟨k1, k2⟩ := merge_whole SA.out SB.out FF1.out FF2.out HS2.out HS3.out HT2.out HT3.out
                      exact ⟨rfl, C1 ++ C2, by have := HR3.out; simpa using this, HG3.out, k1, by simpa [List.append_assoc] using k2⟩
                · have HSS : Hid (SortedC (A2 ++ B2)) := by
                    show SortedC _
                    have := LA2.out; have := LB2.out
                    exact short_sorted SA.out.right SB.out.right (by omega)
                  by_cases hr1 : mid < en
                  · have hrrz1 : (mid : Int) < (en : Int) := by omega
                    have hrrz2 : ¬ (en : Int) < (b : Int) := by omega
                    go_wp2_with fail
                    all_goals
                      go_end0
                      obtain ⟨k1, k2⟩ := merge_whole SA.out SB.out FF1.out FF2.out HS2.out HSS.out HT2.out (Stably.refl _)
                      exact ⟨rfl, C1 ++ (A2 ++ B2), by have := HR2.out; simpa using this, HG2.out, k1, by simpa [List.append_assoc] using k2⟩
                  · have hrrz1 : ¬ (mid : Int) < (en : Int) := by omega
                    go_wp2_with fail
                    all_goals
                      go_end0
                      obtain ⟨k1, k2⟩ := merge_whole SA.out SB.out FF1.out FF2.out HS2.out HSS.out HT2.out (Stably.refl _)
                      exact ⟨rfl, C1 ++ (A2 ++ B2), by have := HR2.out; simpa using this, HG2.out, k1, by simpa [List.append_assoc] using k2⟩
            · obtain ⟨w2, hw2⟩ : ∃ w2, w2 = w1 := ⟨_, rfl⟩
              obtain ⟨C1, hC1⟩ : ∃ C1, C1 = A1 ++ B1 := ⟨_, rfl⟩
              have HR2 : Hid (Row w1 g (p ++ C1 ++ (A2 ++ B2 ++ s)) tl) := by show Row _ _ _ _; rw [hC1]; simpa using HR1.out
              have HS2 : Hid (SortedC C1) := by
                show SortedC C1
                rw [hC1]
                have := LA1.out; have := LB1.out
                exact short_sorted SA.out.left SB.out.left (by omega)
              have HT2 : Hid (Stably C1 (A1 ++ B1)) := by show Stably _ _; rw [hC1]; exact Stably.refl _
              clear hC1
              have HG2 := HG1
              clear HR1 HG1
              subst hw2
              by_cases hl1 : a < st
              · have hlz1 : (a : Int) < (st : Int) := by omega
                have hlz2 : ¬ (st : Int) < (mid : Int) := by omega
                -- the right half
                have LC : Hid ((p ++ C1).length = mid) := by
                  show _ = _
                  have h1 := LLp.out; have h2 := LA1.out; have h3 := LB1.out
                  have h4 := HS.out
                  have : C1.length = (A1 ++ B1).length := stably_length HT2.out
                  simp at this ⊢; omega
                by_cases hright : mid < en ∧ en < b
                · obtain ⟨hr1, hr2⟩ := hright
                  have HL3 : Hid ((p ++ C1 ++ A2 ++ B2 ++ s).length = len) := by
                    show _ = _
                    have h1 := LLp.out; have h2 := LA1.out; have h3 := LB1.out; have h4 := LC.out; have h5 := HL.out
                    simp at h4 h5 ⊢; omega
                  have HC2 := hid (ih w2 g len cap mid en b (p ++ C1) A2 B2 s tl (by have := HR2.out; simpa using this) HL3.out LC.out (by have := LA2.out; omega) LB2.out hr1 hr2 SA.out.right SB.out.right hc hm (by omega))
                  have hrrz1 : (mid : Int) < (en : Int) := by omega
                  have hrrz2 : (en : Int) < (b : Int) := by omega
                  go_wp2_with fail
                  all_goals
                    refine HC2.out.mono ?_
                    rintro e w3 ⟨rfl, C2, hR3, hG3, hS3, hT3⟩
                    have HR3 := hid hR3
                    have HG3 : Hid (w.grownBy w3 (some g)) := only_trans HG2.out hG3
                    have HS3 := hid hS3
                    have HT3 := hid hT3
                    clear hR3 hG3 hS3 hT3 HC2 HR2 HG2
                    go_wp2_with fail
                    all_goals
                      go_end0
                      obtain ⟨k1, k2⟩ := merge_whole SA.out SB.out FF1.out FF2.out HS2.out HS3.out HT2.out HT3.out
                      exact ⟨rfl, C1 ++ C2, by have := HR3.out; simpa using this, HG3.out, k1, by simpa [List.append_assoc] using k2⟩
                · have HSS : Hid (SortedC (A2 ++ B2)) := by
                    show SortedC _
                    have := LA2.out; have := LB2.out
                    exact short_sorted SA.out.right SB.out.right (by omega)
                  by_cases hr1 : mid < en
                  · have hrrz1 : (mid : Int) < (en : Int) := by omega
                    have hrrz2 : ¬ (en : Int) < (b : Int) := by omega
                    go_wp2_with fail
                    all_goals
                      go_end0
                      obtain ⟨k1, k2⟩ := merge_whole SA.out SB.out FF1.out FF2.out HS2.out HSS.out HT2.out (Stably.refl _)
                      exact ⟨rfl, C1 ++ (A2 ++ B2), by have := HR2.out; simpa using this, HG2.out, k1, by simpa [List.append_assoc] using k2⟩
                  · have hrrz1 : ¬ (mid : Int) < (en : Int) := by omega
                    go_wp2_with fail
                    all_goals
                      go_end0
                      obtain ⟨k1, k2⟩ := merge_whole SA.out SB.out FF1.out FF2.out HS2.out HSS.out HT2.out (Stably.refl _)
                      exact ⟨rfl, C1 ++ (A2 ++ B2), by have := HR2.out; simpa using this, HG2.out, k1, by simpa [List.append_assoc] using k2⟩
              · have hlz1 : ¬ (a : Int) < (st : Int) := by omega
                -- the right half
                have LC : Hid ((p ++ C1).length = mid) := by
                  show _ = _
                  have h1 := LLp.out; have h2 := LA1.out; have h3 := LB1.out
                  have h4 := HS.out
                  have : C1.length = (A1 ++ B1).length := stably_length HT2.out
                  simp at this ⊢; omega
                by_cases hright : mid < en ∧ en < b
                · obtain ⟨hr1, hr2⟩ := hright
                  have HL3 : Hid ((p ++ C1 ++ A2 ++ B2 ++ s).length = len) := by
                    show _ = _
                    have h1 := LLp.out; have h2 := LA1.out; have h3 := LB1.out; have h4 := LC.out; have h5 := HL.out
                    simp at h4 h5 ⊢; omega
                  have HC2 := hid (ih w2 g len cap mid en b (p ++ C1) A2 B2 s tl (by have := HR2.out; simpa using this) HL3.out LC.out (by have := LA2.out; omega) LB2.out hr1 hr2 SA.out.right SB.out.right hc hm (by omega))
                  have hrrz1 : (mid : Int) < (en : Int) := by omega
                  have hrrz2 : (en : Int) < (b : Int) := by omega
                  go_wp2_with fail
                  all_goals
                    refine HC2.out.mono ?_
                    rintro e w3 ⟨rfl, C2, hR3, hG3, hS3, hT3⟩
                    have HR3 := hid hR3
                    have HG3 : Hid (w.grownBy w3 (some g)) := only_trans HG2.out hG3
                    have HS3 := hid hS3
                    have HT3 := hid hT3
                    clear hR3 hG3 hS3 hT3 HC2 HR2 HG2
                    go_wp2_with fail
                    all_goals
                      go_end0
                      obtain ⟨k1, k2⟩ := merge_whole SA.out SB.out FF1.out FF2.out HS2.out HS3.out HT2.out HT3.out
                      exact ⟨rfl, C1 ++ C2, by have := HR3.out; simpa using this, HG3.out, k1, by simpa [List.append_assoc] using k2⟩
                · have HSS : Hid (SortedC (A2 ++ B2)) := by
                    show SortedC _
                    have := LA2.out; have := LB2.out
                    exact short_sorted SA.out.right SB.out.right (by omega)
                  by_cases hr1 : mid < en
                  · have hrrz1 : (mid : Int) < (en : Int) := by omega
                    have hrrz2 : ¬ (en : Int) < (b : Int) := by omega
                    go_wp2_with fail
                    all_goals
                      go_end0
                      obtain ⟨k1, k2⟩ := merge_whole SA.out SB.out FF1.out FF2.out HS2.out HSS.out HT2.out (Stably.refl _)
                      exact ⟨rfl, C1 ++ (A2 ++ B2), by have := HR2.out; simpa using this, HG2.out, k1, by simpa [List.append_assoc] using k2⟩
                  · have hrrz1 : ¬ (mid : Int) < (en : Int) := by omega
                    go_wp2_with fail
                    all_goals
                      go_end0
                      obtain ⟨k1, k2⟩ := merge_whole SA.out SB.out FF1.out FF2.out HS2.out HSS.out HT2.out (Stably.refl _)
                      exact ⟨rfl, C1 ++ (A2 ++ B2), by have := HR2.out; simpa using this, HG2.out, k1, by simpa [List.append_assoc] using k2⟩
  · have hmz : ¬ (mid : Int) < (m : Int) := by omega
    have hrg2 : st0 = a ∧ r0 = m := by rcases hrange with ⟨_, _, _⟩ | ⟨_, _, _⟩ <;> omega
    have hrg3 : st0 ≤ a := by omega
    have hrg4 : a ≤ st0 := by omega
    have hrg5 : r0 ≤ m := by omega
    have hrg6 : m ≤ r0 := by omega
    clear hrg2 hrange
    go_enter Try.func169, Try.ntmps169
    go_wp2_with fail
    go_loopw [20, 21] (fun vi vj wr => ∃ st r : Nat, vi = .int .i64 st ∧ vj = .int .i64 r ∧ st0 ≤ st ∧ st ≤ r ∧ r ≤ r0 ∧ Hid (FindC A B a mid st0 r0 st r) ∧ Hid (Row wr g (p ++ A ++ B ++ s) tl) ∧ Hid (w.grownBy wr (some g))) (fun vi vj _ => (intOf vj).toNat - (intOf vi).toNat)
    case atStart => exact ⟨st0, r0, by congr 1; omega, by congr 1; omega, by omega, by omega, by omega, HF st0 r0, HR, only_refl _ _⟩
    case round =>
      obtain ⟨st, r, rfl, rfl, hi, hij, hjb, HFi, HRi, HGi⟩ := hrel
      by_cases hlt : st < r
      · have hltz : (st : Int) < (r : Int) := by omega
        obtain ⟨c, eh, h1, h2⟩ : ∃ c : Nat, ((st : Int) + (r : Int)) / 2 = (c : Int) ∧ st ≤ c ∧ c < r := ⟨(st + r) / 2, by omega, by omega, by omega⟩
        obtain ⟨q, eq, hq1, hq2⟩ : ∃ q : Nat, ((mid : Int) + (m : Int) - 1 - (c : Int)) = (q : Int) ∧ q + c + 1 = mid + m ∧ q < b := ⟨mid + m - 1 - c, by omega, by omega, by omega⟩
        have hl1 := HAl.out
        have hl2 := HBl.out
        obtain ⟨x, hx⟩ : ∃ x, A[c - a]? = some x := ⟨_, List.getElem?_eq_getElem (by omega)⟩
        obtain ⟨y, hy⟩ : ∃ y, B[mid - 1 - c]? = some y := ⟨_, List.getElem?_eq_getElem (by omega)⟩
        have e0 : (p ++ A ++ B ++ s)[c]? = some x := by
          have hp := HP.out
          rw [List.append_assoc, List.append_assoc, List.getElem?_append_right (by omega), List.getElem?_append_left (by omega)]
          rw [hp]; exact hx
        have e1 : (p ++ A ++ B ++ s)[q]? = some y := by
          have hp := HP.out
          have e : q - (p ++ A).length = mid - 1 - c := by simp; omega
          rw [List.append_assoc, List.getElem?_append_right (by simp; omega), e, List.getElem?_append_left (by omega)]
          exact hy
        have c0 : ∀ n os, (grow (wr.drewN n) os).cell? ⟨g, c * 2, none⟩ = some (.int .u64 x.1) := fun n os => (HRi.out.grow n os).cell0 e0
        have c1 : ∀ n os, (grow (wr.drewN n) os).cell? ⟨g, c * 2 + 1, none⟩ = some (.int .i64 x.2) := fun n os => (HRi.out.grow n os).cell1 e0
        have c2 : ∀ n os, (grow (wr.drewN n) os).cell? ⟨g, q * 2, none⟩ = some (.int .u64 y.1) := fun n os => (HRi.out.grow n os).cell0 e1
        have c3 : ∀ n os, (grow (wr.drewN n) os).cell? ⟨g, q * 2 + 1, none⟩ = some (.int .i64 y.2) := fun n os => (HRi.out.grow n os).cell1 e1
        have hz1 : (c : Int) < (len : Int) := by omega
        have hz2 : (q : Int) < (len : Int) := by omega
        have hz3 : (0 : Int) ≤ (c : Int) := by omega
        have hz4 : (0 : Int) ≤ (q : Int) := by omega
        have eqw : IntKind.i64.wrap ((mid : Int) + (m : Int) - 1 - (c : Int)) = (q : Int) := by rw [IntKind.wrap_i64]; omega
        have eqw2 : IntKind.i64.wrap (q : Int) = (q : Int) := by rw [IntKind.wrap_i64]; omega
        have X := hid hx
        have Y := hid hy
        clear hl1 hl2 hx hy e0 e1
        go_wp2_with fail
        by_cases hless : y.1 < x.1
        · have hcmp : cmpI y.1 x.1 < 0 := cmpI_neg.2 hless
          go_quiet_grown (first | (go_at_call 94; refine Calls.grown_of (cmp94 y x _)))
          go_wp2_with fail
          have RQ := HRi.out.grow nq osq
          have GQ := only_below HGi.out (grown_below nq osq)
          go_roundw
          case measure => simp [intOf] <;> omega
          case rel => exact ⟨st, c, by first | rfl | go_num, by first | rfl | go_num, by omega, by omega, by omega, findC_high HA.out HB.out HFi.out X.out Y.out (by omega) (by omega) (by omega) hless, RQ, GQ⟩
        · have hcmp : ¬ cmpI y.1 x.1 < 0 := fun hh => hless (cmpI_neg.1 hh)
          go_quiet_grown (first | (go_at_call 94; refine Calls.grown_of (cmp94 y x _)))
          go_wp2_with fail
          have RQ := HRi.out.grow nq osq
          have GQ := only_below HGi.out (grown_below nq osq)
          go_roundw
          case measure => simp [intOf] <;> omega
          case rel => exact ⟨c + 1, r, by go_num, by first | rfl | go_num, by omega, by omega, by omega, findC_low HA.out HB.out HFi.out X.out Y.out (by omega) (by omega) (by omega) (by omega), RQ, GQ⟩
      · have hltz : ¬ (st : Int) < (r : Int) := by omega
        obtain rfl : st = r := by omega
        obtain ⟨A1, A2, B1, B2, hAA, hBB, la1, lb1, F1, F2⟩ := split_facts HA.out HB.out HAl.out HBl.out hmd1 hmd2 HRg.out hi hjb HFi.out
        have la := HAl.out
        have lb := HBl.out
        have lp := HP.out
        subst hAA hBB
        rw [List.length_append] at la lb
        obtain ⟨en, een, hen⟩ : ∃ en : Nat, ((mid : Int) + (m : Int) - (st : Int)) = (en : Int) ∧ en + st = mid + m := ⟨mid + m - st, by omega, by omega⟩
        have een2 : IntKind.i64.wrap ((mid : Int) + (m : Int) - (st : Int)) = (en : Int) := by rw [IntKind.wrap_i64]; omega
        have hL0 : (p ++ A1 ++ A2 ++ B1 ++ (B2 ++ s)).length = len := by have := HL.out; simp at this ⊢; omega
        have hR0 : Row wr g (p ++ A1 ++ A2 ++ B1 ++ (B2 ++ s)) tl := by have := HRi.out; simpa using this
        have la2 : st + A2.length = m := by omega
        have lb2 : m + B1.length = en := by omega
        have lpa : (p ++ A1).length = st := by simp; omega
        have HS : Hid (∀ w1, Row w1 g (p ++ A1 ++ B1 ++ (A2 ++ B2 ++ s)) tl → (p ++ A1 ++ B1 ++ (A2 ++ B2 ++ s)).length = len) := by
          intro w1 _; simp at hL0 ⊢; omega
        have LLp := hid lp
        have LA1 := hid la1
        have LB1 := hid lb1
        have LB2 : Hid (en + B2.length = b) := by show _ = _; omega
        have LA2 := hid la2
        have SA := hid HA.out
        have SB := hid HB.out
        have FF1 := hid F1
        have FF2 := hid F2
        -- the rotation
        by_cases hrot : st < m ∧ m < en
        · obtain ⟨hr1, hr2⟩ := hrot
          have HC := hid (rotate180 wr g len cap st m en (p ++ A1) A2 B1 (B2 ++ s) tl hR0 hL0 lpa la2 lb2 hr1 hr2 hc (by omega) (.func (.func 94) #[] #[]))
          have hrz1 : (st : Int) < (m : Int) := by omega
          have hrz2 : (m : Int) < (en : Int) := by omega
          clear la lb lp la1 lb1 la2 lb2 lpa hL0 hR0 F1 F2 HFi HRi
          go_wp2_with fail
          refine HC.out.mono ?_
          rintro e w1 ⟨rfl, hR1, hG1⟩
          have HR1 : Hid (Row w1 g (p ++ A1 ++ B1 ++ (A2 ++ B2 ++ s)) tl) := by show Row _ _ _ _; simpa using hR1
          have HG1 : Hid (w.grownBy w1 (some g)) := only_trans HGi.out hG1
          clear hR1 hG1 HC HGi
          -- the left half
          by_cases hleft : a < st ∧ st < mid
          · obtain ⟨hl1, hl2⟩ := hleft
            have HC1 := hid (ih w1 g len cap a st mid p A1 B1 (A2 ++ B2 ++ s) tl HR1.out (HS.out w1 HR1.out) LLp.out (by have := LA1.out; omega) (by have := LB1.out; omega) hl1 hl2 SA.out.left SB.out.left hc hm (by omega))
            have hlz1 : (a : Int) < (st : Int) := by omega
            have hlz2 : (st : Int) < (mid : Int) := by omega
            go_wp2_with fail
            all_goals
              refine HC1.out.mono ?_
              rintro e w2 ⟨rfl, C1, hR2, hG2, hS2, hT2⟩
              have HR2 := hid hR2
              have HG2 : Hid (w.grownBy w2 (some g)) := only_trans HG1.out hG2
              have HS2 := hid hS2
              have HT2 := hid hT2
              clear hR2 hG2 hS2 hT2 HC1 HR1 HG1
              -- the right half
              have LC : Hid ((p ++ C1).length = mid) := by
                show _ = _
                have h1 := LLp.out; have h2 := LA1.out; have h3 := LB1.out
                have h4 := HS.out
                have : C1.length = (A1 ++ B1).length := stably_length HT2.out
                simp at this ⊢; omega
              by_cases hright : mid < en ∧ en < b
              · obtain ⟨hr1, hr2⟩ := hright
                have HL3 : Hid ((p ++ C1 ++ A2 ++ B2 ++ s).length = len) := by
                  show _ = _
                  have h1 := LLp.out; have h2 := LA1.out; have h3 := LB1.out; have h4 := LC.out; have h5 := HL.out
                  simp at h4 h5 ⊢; omega
                have HC2 := hid (ih w2 g len cap mid en b (p ++ C1) A2 B2 s tl (by have := HR2.out; simpa using this) HL3.out LC.out (by have := LA2.out; omega) LB2.out hr1 hr2 SA.out.right SB.out.right hc hm (by omega))
                have hrrz1 : (mid : Int) < (en : Int) := by omega
                have hrrz2 : (en : Int) < (b : Int) := by omega
                go_wp2_with fail
                all_goals
                  refine HC2.out.mono ?_
                  rintro e w3 ⟨rfl, C2, hR3, hG3, hS3, hT3⟩
                  have HR3 := hid hR3
                  have HG3 : Hid (w.grownBy w3 (some g)) := only_trans HG2.out hG3
                  have HS3 := hid hS3
                  have HT3 := hid hT3
                  clear hR3 hG3 hS3 hT3 HC2 HR2 HG2
                  go_wp2_with fail
                  all_goals
                    go_end0
                    obtain ⟨k1, k2⟩ := merge_whole SA.out SB.out FF1.out FF2.out HS2.out HS3.out HT2.out HT3.out
                    exact ⟨rfl, C1 ++ C2, by have := HR3.out; simpa using this, HG3.out, k1, by simpa [List.append_assoc] using k2⟩
              · have HSS : Hid (SortedC (A2 ++ B2)) := by
                  show SortedC _
                  have := LA2.out; have := LB2.out
                  exact short_sorted SA.out.right SB.out.right (by omega)
                by_cases hr1 : mid < en
                · have hrrz1 : (mid : Int) < (en : Int) := by omega
                  have hrrz2 : ¬ (en : Int) < (b : Int) := by omega
                  go_wp2_with fail
                  all_goals
                    go_end0
                    obtain ⟨k1, k2⟩ := merge_whole SA.out SB.out FF1.out FF2.out HS2.out HSS.out HT2.out (Stably.refl _)
                    exact ⟨rfl, C1 ++ (A2 ++ B2), by have := HR2.out; simpa using this, HG2.out, k1, by simpa [List.append_assoc] using k2⟩
                · have hrrz1 : ¬ (mid : Int) < (en : Int) := by omega
                  go_wp2_with fail
                  all_goals
                    go_end0
                    obtain ⟨k1, k2⟩ := merge_whole SA.out SB.out FF1.out FF2.out HS2.out HSS.out HT2.out (Stably.refl _)
                    exact ⟨rfl, C1 ++ (A2 ++ B2), by have := HR2.out; simpa using this, HG2.out, k1, by simpa [List.append_assoc] using k2⟩
          · obtain ⟨w2, hw2⟩ : ∃ w2, w2 = w1 := ⟨_, rfl⟩
            obtain ⟨C1, hC1⟩ : ∃ C1, C1 = A1 ++ B1 := ⟨_, rfl⟩
            have HR2 : Hid (Row w1 g (p ++ C1 ++ (A2 ++ B2 ++ s)) tl) := by show Row _ _ _ _; rw [hC1]; simpa using HR1.out
            have HS2 : Hid (SortedC C1) := by
              show SortedC C1
              rw [hC1]
              have := LA1.out; have := LB1.out
              exact short_sorted SA.out.left SB.out.left (by omega)
            have HT2 : Hid (Stably C1 (A1 ++ B1)) := by show Stably _ _; rw [hC1]; exact Stably.refl _
            clear hC1
            have HG2 := HG1
            clear HR1 HG1
            subst hw2
            by_cases hl1 : a < st
            · have hlz1 : (a : Int) < (st : Int) := by omega
              have hlz2 : ¬ (st : Int) < (mid : Int) := by omega
              -- the right half
              have LC : Hid ((p ++ C1).length = mid) := by
                show _ = _
                have h1 := LLp.out; have h2 := LA1.out; have h3 := LB1.out
                have h4 := HS.out
                have : C1.length = (A1 ++ B1).length := stably_length HT2.out
                simp at this ⊢; omega
              by_cases hright : mid < en ∧ en < b
              · obtain ⟨hr1, hr2⟩ := hright
                have HL3 : Hid ((p ++ C1 ++ A2 ++ B2 ++ s).length = len) := by
                  show _ = _
                  have h1 := LLp.out; have h2 := LA1.out; have h3 := LB1.out; have h4 := LC.out; have h5 := HL.out
                  simp at h4 h5 ⊢; omega
                have HC2 := hid (ih w2 g len cap mid en b (p ++ C1) A2 B2 s tl (by have := HR2.out; simpa using this) HL3.out LC.out (by have := LA2.out; omega) LB2.out hr1 hr2 SA.out.right SB.out.right hc hm (by omega))
                have hrrz1 : (mid : Int) < (en : Int) := by omega
                have hrrz2 : (en : Int) < (b : Int) := by omega
                go_wp2_with fail
                all_goals
                  refine HC2.out.mono ?_
                  rintro e w3 ⟨rfl, C2, hR3, hG3, hS3, hT3⟩
                  have HR3 := hid hR3
                  have HG3 : Hid (w.grownBy w3 (some g)) := only_trans HG2.out hG3
                  have HS3 := hid hS3
                  have HT3 := hid hT3
                  clear hR3 hG3 hS3 hT3 HC2 HR2 HG2
                  go_wp2_with fail
                  all_goals
                    go_end0
                    obtain ⟨k1, k2⟩ := merge_whole SA.out SB.out FF1.out FF2.out HS2.out HS3.out HT2.out HT3.out
                    exact ⟨rfl, C1 ++ C2, by have := HR3.out; simpa using this, HG3.out, k1, by simpa [List.append_assoc] using k2⟩
              · have HSS : Hid (SortedC (A2 ++ B2)) := by
                  show SortedC _
                  have := LA2.out; have := LB2.out
                  exact short_sorted SA.out.right SB.out.right (by omega)
                by_cases hr1 : mid < en
                · have hrrz1 : (mid : Int) < (en : Int) := by omega
                  have hrrz2 : ¬ (en : Int) < (b : Int) := by omega
                  go_wp2_with fail
                  all_goals
                    go_end0
                    obtain ⟨k1, k2⟩ := merge_whole SA.out SB.out FF1.out FF2.out HS2.out HSS.out HT2.out (Stably.refl _)
                    exact ⟨rfl, C1 ++ (A2 ++ B2), by have := HR2.out; simpa using this, HG2.out, k1, by simpa [List.append_assoc] using k2⟩
                · have hrrz1 : ¬ (mid : Int) < (en : Int) := by omega
                  go_wp2_with fail
                  all_goals
                    go_end0
                    obtain ⟨k1, k2⟩ := merge_whole SA.out SB.out FF1.out FF2.out HS2.out HSS.out HT2.out (Stably.refl _)
                    exact ⟨rfl, C1 ++ (A2 ++ B2), by have := HR2.out; simpa using this, HG2.out, k1, by simpa [List.append_assoc] using k2⟩
            · have hlz1 : ¬ (a : Int) < (st : Int) := by omega
              -- the right half
              have LC : Hid ((p ++ C1).length = mid) := by
                show _ = _
                have h1 := LLp.out; have h2 := LA1.out; have h3 := LB1.out
                have h4 := HS.out
                have : C1.length = (A1 ++ B1).length := stably_length HT2.out
                simp at this ⊢; omega
              by_cases hright : mid < en ∧ en < b
              · obtain ⟨hr1, hr2⟩ := hright
                have HL3 : Hid ((p ++ C1 ++ A2 ++ B2 ++ s).length = len) := by
                  show _ = _
                  have h1 := LLp.out; have h2 := LA1.out; have h3 := LB1.out; have h4 := LC.out; have h5 := HL.out
                  simp at h4 h5 ⊢; omega
                have HC2 := hid (ih w2 g len cap mid en b (p ++ C1) A2 B2 s tl (by have := HR2.out; simpa using this) HL3.out LC.out (by have := LA2.out; omega) LB2.out hr1 hr2 SA.out.right SB.out.right hc hm (by omega))
                have hrrz1 : (mid : Int) < (en : Int) := by omega
                have hrrz2 : (en : Int) < (b : Int) := by omega
                go_wp2_with fail
                all_goals
                  refine HC2.out.mono ?_
                  rintro e w3 ⟨rfl, C2, hR3, hG3, hS3, hT3⟩
                  have HR3 := hid hR3
                  have HG3 : Hid (w.grownBy w3 (some g)) := only_trans HG2.out hG3
                  have HS3 := hid hS3
                  have HT3 := hid hT3
                  clear hR3 hG3 hS3 hT3 HC2 HR2 HG2
                  go_wp2_with fail
                  all_goals
                    go_end0
                    obtain ⟨k1, k2⟩ := merge_whole SA.out SB.out FF1.out FF2.out HS2.out HS3.out HT2.out HT3.out
                    exact ⟨rfl, C1 ++ C2, by have := HR3.out; simpa using this, HG3.out, k1, by simpa [List.append_assoc] using k2⟩
              · have HSS : Hid (SortedC (A2 ++ B2)) := by
                  show SortedC _
                  have := LA2.out; have := LB2.out
                  exact short_sorted SA.out.right SB.out.right (by omega)
                by_cases hr1 : mid < en
                · have hrrz1 : (mid : Int) < (en : Int) := by omega
                  have hrrz2 : ¬ (en : Int) < (b : Int) := by omega
                  go_wp2_with fail
                  all_goals
                    go_end0
                    obtain ⟨k1, k2⟩ := merge_whole SA.out SB.out FF1.out FF2.out HS2.out HSS.out HT2.out (Stably.refl _)
                    exact ⟨rfl, C1 ++ (A2 ++ B2), by have := HR2.out; simpa using this, HG2.out, k1, by simpa [List.append_assoc] using k2⟩
                · have hrrz1 : ¬ (mid : Int) < (en : Int) := by omega
                  go_wp2_with fail
                  all_goals
                    go_end0
                    obtain ⟨k1, k2⟩ := merge_whole SA.out SB.out FF1.out FF2.out HS2.out HSS.out HT2.out (Stably.refl _)
                    exact ⟨rfl, C1 ++ (A2 ++ B2), by have := HR2.out; simpa using this, HG2.out, k1, by simpa [List.append_assoc] using k2⟩
        · have HR1 : Hid (Row wr g (p ++ A1 ++ B1 ++ (A2 ++ B2 ++ s)) tl) := by
            show Row _ _ _ _
            have : A2 = [] ∨ B1 = [] := by
              by_cases h : st < m
              · exact .inr (List.eq_nil_of_length_eq_zero (by omega))
              · exact .inl (List.eq_nil_of_length_eq_zero (by omega))
            rcases this with h | h <;> subst h <;> simpa using hR0
          have HG1 := HGi
          clear la lb lp la1 lb1 la2 lb2 lpa hL0 hR0 F1 F2 HFi HRi
          obtain ⟨w1, hw1⟩ : ∃ w1, w1 = wr := ⟨_, rfl⟩
          subst hw1
          by_cases hr1 : st < m
          · have hrz1 : (st : Int) < (m : Int) := by omega
            have hrz2 : ¬ (m : Int) < (en : Int) := by omega
            -- the left half
            by_cases hleft : a < st ∧ st < mid
            · obtain ⟨hl1, hl2⟩ := hleft
              have HC1 := hid (ih w1 g len cap a st mid p A1 B1 (A2 ++ B2 ++ s) tl HR1.out (HS.out w1 HR1.out) LLp.out (by have := LA1.out; omega) (by have := LB1.out; omega) hl1 hl2 SA.out.left SB.out.left hc hm (by omega))
              have hlz1 : (a : Int) < (st : Int) := by omega
              have hlz2 : (st : Int) < (mid : Int) := by omega
              go_wp2_with fail
              all_goals
                refine HC1.out.mono ?_
                rintro e w2 ⟨rfl, C1, hR2, hG2, hS2, hT2⟩
                have HR2 := hid hR2
                have HG2 : Hid (w.grownBy w2 (some g)) := only_trans HG1.out hG2
                have HS2 := hid hS2
                have HT2 := hid hT2
                clear hR2 hG2 hS2 hT2 HC1 HR1 HG1
                -- the right half
                have LC : Hid ((p ++ C1).length = mid) := by
                  show _ = _
                  have h1 := LLp.out; have h2 := LA1.out; have h3 := LB1.out
                  have h4 := HS.out
                  have : C1.length = (A1 ++ B1).length := stably_length HT2.out
                  simp at this ⊢; omega
                by_cases hright : mid < en ∧ en < b
                · obtain ⟨hr1, hr2⟩ := hright
                  have HL3 : Hid ((p ++ C1 ++ A2 ++ B2 ++ s).length = len) := by
                    show _ = _
                    have h1 := LLp.out; have h2 := LA1.out; have h3 := LB1.out; have h4 := LC.out; have h5 := HL.out
                    simp at h4 h5 ⊢; omega
                  have HC2 := hid (ih w2 g len cap mid en b (p ++ C1) A2 B2 s tl (by have := HR2.out; simpa using this) HL3.out LC.out (by have := LA2.out; omega) LB2.out hr1 hr2 SA.out.right SB.out.right hc hm (by omega))
                  have hrrz1 : (mid : Int) < (en : Int) := by omega
                  have hrrz2 : (en : Int) < (b : Int) := by omega
                  go_wp2_with fail
                  all_goals
                    refine HC2.out.mono ?_
                    rintro e w3 ⟨rfl, C2, hR3, hG3, hS3, hT3⟩
                    have HR3 := hid hR3
                    have HG3 : Hid (w.grownBy w3 (some g)) := only_trans HG2.out hG3
                    have HS3 := hid hS3
                    have HT3 := hid hT3
                    clear hR3 hG3 hS3 hT3 HC2 HR2 HG2
                    go_wp2_with fail
                    all_goals
                      go_end0
                      obtain ⟨k1, k2⟩ := merge_whole SA.out SB.out FF1.out FF2.out HS2.out HS3.out HT2.out HT3.out
                      exact ⟨rfl, C1 ++ C2, by have := HR3.out; simpa using this, HG3.out, k1, by simpa [List.append_assoc] using k2⟩
                · have HSS : Hid (SortedC (A2 ++ B2)) := by
                    show SortedC _
                    have := LA2.out; have := LB2.out
                    exact short_sorted SA.out.right SB.out.right (by omega)
                  by_cases hr1 : mid < en
                  · have hrrz1 : (mid : Int) < (en : Int) := by omega
                    have hrrz2 : ¬ (en : Int) < (b : Int) := by omega
                    go_wp2_with fail
                    all_goals
                      go_end0
                      obtain ⟨k1, k2⟩ := merge_whole SA.out SB.out FF1.out FF2.out HS2.out HSS.out HT2.out (Stably.refl _)
                      exact ⟨rfl, C1 ++ (A2 ++ B2), by have := HR2.out; simpa using this, HG2.out, k1, by simpa [List.append_assoc] using k2⟩
                  · have hrrz1 : ¬ (mid : Int) < (en : Int) := by omega
                    go_wp2_with fail
                    all_goals
                      go_end0
                      obtain ⟨k1, k2⟩ := merge_whole SA.out SB.out FF1.out FF2.out HS2.out HSS.out HT2.out (Stably.refl _)
                      exact ⟨rfl, C1 ++ (A2 ++ B2), by have := HR2.out; simpa using this, HG2.out, k1, by simpa [List.append_assoc] using k2⟩
            · obtain ⟨w2, hw2⟩ : ∃ w2, w2 = w1 := ⟨_, rfl⟩
              obtain ⟨C1, hC1⟩ : ∃ C1, C1 = A1 ++ B1 := ⟨_, rfl⟩
              have HR2 : Hid (Row w1 g (p ++ C1 ++ (A2 ++ B2 ++ s)) tl) := by show Row _ _ _ _; rw [hC1]; simpa using HR1.out
              have HS2 : Hid (SortedC C1) := by
                show SortedC C1
                rw [hC1]
                have := LA1.out; have := LB1.out
                exact short_sorted SA.out.left SB.out.left (by omega)
              have HT2 : Hid (Stably C1 (A1 ++ B1)) := by show Stably _ _; rw [hC1]; exact Stably.refl _
              clear hC1
              have HG2 := HG1
              clear HR1 HG1
              subst hw2
              by_cases hl1 : a < st
              · have hlz1 : (a : Int) < (st : Int) := by omega
                have hlz2 : ¬ (st : Int) < (mid : Int) := by omega
                -- the right half
                have LC : Hid ((p ++ C1).length = mid) := by
                  show _ = _
                  have h1 := LLp.out; have h2 := LA1.out; have h3 := LB1.out
                  have h4 := HS.out
                  have : C1.length = (A1 ++ B1).length := stably_length HT2.out
                  simp at this ⊢; omega
                by_cases hright : mid < en ∧ en < b
                · obtain ⟨hr1, hr2⟩ := hright
                  have HL3 : Hid ((p ++ C1 ++ A2 ++ B2 ++ s).length = len) := by
                    show _ = _
                    have h1 := LLp.out; have h2 := LA1.out; have h3 := LB1.out; have h4 := LC.out; have h5 := HL.out
                    simp at h4 h5 ⊢; omega
                  have HC2 := hid (ih w2 g len cap mid en b (p ++ C1) A2 B2 s tl (by have := HR2.out; simpa using this) HL3.out LC.out (by have := LA2.out; omega) LB2.out hr1 hr2 SA.out.right SB.out.right hc hm (by omega))
                  have hrrz1 : (mid : Int) < (en : Int) := by omega
                  have hrrz2 : (en : Int) < (b : Int) := by omega
                  go_wp2_with fail
                  all_goals
                    refine HC2.out.mono ?_
                    rintro e w3 ⟨rfl, C2, hR3, hG3, hS3, hT3⟩
                    have HR3 := hid hR3
                    have HG3 : Hid (w.grownBy w3 (some g)) := only_trans HG2.out hG3
                    have HS3 := hid hS3
                    have HT3 := hid hT3
                    clear hR3 hG3 hS3 hT3 HC2 HR2 HG2
                    go_wp2_with fail
                    all_goals
                      go_end0
                      obtain ⟨k1, k2⟩ := merge_whole SA.out SB.out FF1.out FF2.out HS2.out HS3.out HT2.out HT3.out
                      exact ⟨rfl, C1 ++ C2, by have := HR3.out; simpa using this, HG3.out, k1, by simpa [List.append_assoc] using k2⟩
                · have HSS : Hid (SortedC (A2 ++ B2)) := by
                    show SortedC _
                    have := LA2.out; have := LB2.out
                    exact short_sorted SA.out.right SB.out.right (by omega)
                  by_cases hr1 : mid < en
                  · have hrrz1 : (mid : Int) < (en : Int) := by omega
                    have hrrz2 : ¬ (en : Int) < (b : Int) := by omega
                    go_wp2_with fail
                    all_goals
                      go_end0
                      obtain ⟨k1, k2⟩ := merge_whole SA.out SB.out FF1.out FF2.out HS2.out HSS.out HT2.out (Stably.refl _)
                      exact ⟨rfl, C1 ++ (A2 ++ B2), by have := HR2.out; simpa using this, HG2.out, k1, by simpa [List.append_assoc] using k2⟩
                  · have hrrz1 : ¬ (mid : Int) < (en : Int) := by omega
                    go_wp2_with fail
                    all_goals
                      go_end0
                      obtain ⟨k1, k2⟩ := merge_whole SA.out SB.out FF1.out FF2.out HS2.out HSS.out HT2.out (Stably.refl _)
                      exact ⟨rfl, C1 ++ (A2 ++ B2), by have := HR2.out; simpa using this, HG2.out, k1, by simpa [List.append_assoc] using k2⟩
              · have hlz1 : ¬ (a : Int) < (st : Int) := by omega
                -- the right half
                have LC : Hid ((p ++ C1).length = mid) := by
                  show _ = _
                  have h1 := LLp.out; have h2 := LA1.out; have h3 := LB1.out
                  have h4 := HS.out
                  have : C1.length = (A1 ++ B1).length := stably_length HT2.out
                  simp at this ⊢; omega
                by_cases hright : mid < en ∧ en < b
                · obtain ⟨hr1, hr2⟩ := hright
                  have HL3 : Hid ((p ++ C1 ++ A2 ++ B2 ++ s).length = len) := by
                    show _ = _
                    have h1 := LLp.out; have h2 := LA1.out; have h3 := LB1.out; have h4 := LC.out; have h5 := HL.out
                    simp at h4 h5 ⊢; omega
                  have HC2 := hid (ih w2 g len cap mid en b (p ++ C1) A2 B2 s tl (by have := HR2.out; simpa using this) HL3.out LC.out (by have := LA2.out; omega) LB2.out hr1 hr2 SA.out.right SB.out.right hc hm (by omega))
                  have hrrz1 : (mid : Int) < (en : Int) := by omega
                  have hrrz2 : (en : Int) < (b : Int) := by omega
                  go_wp2_with fail
                  all_goals
                    refine HC2.out.mono ?_
                    rintro e w3 ⟨rfl, C2, hR3, hG3, hS3, hT3⟩
                    have HR3 := hid hR3
                    have HG3 : Hid (w.grownBy w3 (some g)) := only_trans HG2.out hG3
                    have HS3 := hid hS3
                    have HT3 := hid hT3
                    clear hR3 hG3 hS3 hT3 HC2 HR2 HG2
                    go_wp2_with fail
                    all_goals
                      go_end0
                      obtain ⟨k1, k2⟩ := merge_whole SA.out SB.out FF1.out FF2.out HS2.out HS3.out HT2.out HT3.out
                      exact ⟨rfl, C1 ++ C2, by have := HR3.out; simpa using this, HG3.out, k1, by simpa [List.append_assoc] using k2⟩
                · have HSS : Hid (SortedC (A2 ++ B2)) := by
                    show SortedC _
                    have := LA2.out; have := LB2.out
                    exact short_sorted SA.out.right SB.out.right (by omega)
                  by_cases hr1 : mid < en
                  · have hrrz1 : (mid : Int) < (en : Int) := by omega
                    have hrrz2 : ¬ (en : Int) < (b : Int) := by omega
                    go_wp2_with fail
                    all_goals
                      go_end0
                      obtain ⟨k1, k2⟩ := merge_whole SA.out SB.out FF1.out FF2.out HS2.out HSS.out HT2.out (Stably.refl _)
                      exact ⟨rfl, C1 ++ (A2 ++ B2), by have := HR2.out; simpa using this, HG2.out, k1, by simpa [List.append_assoc] using k2⟩
                  · have hrrz1 : ¬ (mid : Int) < (en : Int) := by omega
                    go_wp2_with fail
                    all_goals
                      go_end0
                      obtain ⟨k1, k2⟩ := merge_whole SA.out SB.out FF1.out FF2.out HS2.out HSS.out HT2.out (Stably.refl _)
                      exact ⟨rfl, C1 ++ (A2 ++ B2), by have := HR2.out; simpa using this, HG2.out, k1, by simpa [List.append_assoc] using k2⟩
          · have hrz1 : ¬ (st : Int) < (m : Int) := by omega
            -- the left half
            by_cases hleft : a < st ∧ st < mid
            · obtain ⟨hl1, hl2⟩ := hleft
              have HC1 := hid (ih w1 g len cap a st mid p A1 B1 (A2 ++ B2 ++ s) tl HR1.out (HS.out w1 HR1.out) LLp.out (by have := LA1.out; omega) (by have := LB1.out; omega) hl1 hl2 SA.out.left SB.out.left hc hm (by omega))
              have hlz1 : (a : Int) < (st : Int) := by omega
              have hlz2 : (st : Int) < (mid : Int) := by omega
              go_wp2_with fail
              all_goals
                refine HC1.out.mono ?_
                rintro e w2 ⟨rfl, C1, hR2, hG2, hS2, hT2⟩
                have HR2 := hid hR2
                have HG2 : Hid (w.grownBy w2 (some g)) := only_trans HG1.out hG2
                have HS2 := hid hS2
                have HT2 := hid hT2
                clear hR2 hG2 hS2 hT2 HC1 HR1 HG1
                -- the right half
                have LC : Hid ((p ++ C1).length = mid) := by
                  show _ = _
                  have h1 := LLp.out; have h2 := LA1.out; have h3 := LB1.out
                  have h4 := HS.out
                  have : C1.length = (A1 ++ B1).length := stably_length HT2.out
                  simp at this ⊢; omega
                by_cases hright : mid < en ∧ en < b
                · obtain ⟨hr1, hr2⟩ := hright
                  have HL3 : Hid ((p ++ C1 ++ A2 ++ B2 ++ s).length = len) := by
                    show _ = _
                    have h1 := LLp.out; have h2 := LA1.out; have h3 := LB1.out; have h4 := LC.out; have h5 := HL.out
                    simp at h4 h5 ⊢; omega
                  have HC2 := hid (ih w2 g len cap mid en b (p ++ C1) A2 B2 s tl (by have := HR2.out; simpa using this) HL3.out LC.out (by have := LA2.out; omega) LB2.out hr1 hr2 SA.out.right SB.out.right hc hm (by omega))
                  have hrrz1 : (mid : Int) < (en : Int) := by omega
                  have hrrz2 : (en : Int) < (b : Int) := by omega
                  go_wp2_with fail
                  all_goals
                    refine HC2.out.mono ?_
                    rintro e w3 ⟨rfl, C2, hR3, hG3, hS3, hT3⟩
                    have HR3 := hid hR3
                    have HG3 : Hid (w.grownBy w3 (some g)) := only_trans HG2.out hG3
                    have HS3 := hid hS3
                    have HT3 := hid hT3
                    clear hR3 hG3 hS3 hT3 HC2 HR2 HG2
                    go_wp2_with fail
                    all_goals
                      go_end0
                      obtain ⟨k1, k2⟩ := merge_whole SA.out SB.out FF1.out FF2.out HS2.out HS3.out HT2.out HT3.out
                      exact ⟨rfl, C1 ++ C2, by have := HR3.out; simpa using this, HG3.out, k1, by simpa [List.append_assoc] using k2⟩
                · have HSS : Hid (SortedC (A2 ++ B2)) := by
                    show SortedC _
                    have := LA2.out; have := LB2.out
                    exact short_sorted SA.out.right SB.out.right (by omega)
                  by_cases hr1 : mid < en
                  · have hrrz1 : (mid : Int) < (en : Int) := by omega
                    have hrrz2 : ¬ (en : Int) < (b : Int) := by omega
                    go_wp2_with fail
                    all_goals
                      go_end0
                      obtain ⟨k1, k2⟩ := merge_whole SA.out SB.out FF1.out FF2.out HS2.out HSS.out HT2.out (Stably.refl _)
                      exact ⟨rfl, C1 ++ (A2 ++ B2), by have := HR2.out; simpa using this, HG2.out, k1, by simpa [List.append_assoc] using k2⟩
                  · have hrrz1 : ¬ (mid : Int) < (en : Int) := by omega
                    go_wp2_with fail
                    all_goals
                      go_end0
                      obtain ⟨k1, k2⟩ := merge_whole SA.out SB.out FF1.out FF2.out HS2.out HSS.out HT2.out (Stably.refl _)
                      exact ⟨rfl, C1 ++ (A2 ++ B2), by have := HR2.out; simpa using this, HG2.out, k1, by simpa [List.append_assoc] using k2⟩
            · obtain ⟨w2, hw2⟩ : ∃ w2, w2 = w1 := ⟨_, rfl⟩
              obtain ⟨C1, hC1⟩ : ∃ C1, C1 = A1 ++ B1 := ⟨_, rfl⟩
              have HR2 : Hid (Row w1 g (p ++ C1 ++ (A2 ++ B2 ++ s)) tl) := by show Row _ _ _ _; rw [hC1]; simpa using HR1.out
              have HS2 : Hid (SortedC C1) := by
                show SortedC C1
                rw [hC1]
                have := LA1.out; have := LB1.out
                exact short_sorted SA.out.left SB.out.left (by omega)
              have HT2 : Hid (Stably C1 (A1 ++ B1)) := by show Stably _ _; rw [hC1]; exact Stably.refl _
              clear hC1
              have HG2 := HG1
              clear HR1 HG1
              subst hw2
              by_cases hl1 : a < st
              · have hlz1 : (a : Int) < (st : Int) := by omega
                have hlz2 : ¬ (st : Int) < (mid : Int) := by omega
                -- the right half
                have LC : Hid ((p ++ C1).length = mid) := by
                  show _ = _
                  have h1 := LLp.out; have h2 := LA1.out; have h3 := LB1.out
                  have h4 := HS.out
                  have : C1.length = (A1 ++ B1).length := stably_length HT2.out
                  simp at this ⊢; omega
                by_cases hright : mid < en ∧ en < b
                · obtain ⟨hr1, hr2⟩ := hright
                  have HL3 : Hid ((p ++ C1 ++ A2 ++ B2 ++ s).length = len) := by
                    show _ = _
                    have h1 := LLp.out; have h2 := LA1.out; have h3 := LB1.out; have h4 := LC.out; have h5 := HL.out
                    simp at h4 h5 ⊢; omega
                  have HC2 := hid (ih w2 g len cap mid en b (p ++ C1) A2 B2 s tl (by have := HR2.out; simpa using this) HL3.out LC.out (by have := LA2.out; omega) LB2.out hr1 hr2 SA.out.right SB.out.right hc hm (by omega))
                  have hrrz1 : (mid : Int) < (en : Int) := by omega
                  have hrrz2 : (en : Int) < (b : Int) := by omega
                  go_wp2_with fail
                  all_goals
                    refine HC2.out.mono ?_
                    rintro e w3 ⟨rfl, C2, hR3, hG3, hS3, hT3⟩
                    have HR3 := hid hR3
                    have HG3 : Hid (w.grownBy w3 (some g)) := only_trans HG2.out hG3
                    have HS3 := hid hS3
                    have HT3 := hid hT3
                    clear hR3 hG3 hS3 hT3 HC2 HR2 HG2
                    go_wp2_with fail
                    all_goals
                      go_end0
                      obtain ⟨k1, k2⟩ := merge_whole SA.out SB.out FF1.out FF2.out HS2.out HS3.out HT2.out HT3.out
                      exact ⟨rfl, C1 ++ C2, by have := HR3.out; simpa using this, HG3.out, k1, by simpa [List.append_assoc] using k2⟩
                · have HSS : Hid (SortedC (A2 ++ B2)) := by
                    show SortedC _
                    have := LA2.out; have := LB2.out
                    exact short_sorted SA.out.right SB.out.right (by omega)
                  by_cases hr1 : mid < en
                  · have hrrz1 : (mid : Int) < (en : Int) := by omega
                    have hrrz2 : ¬ (en : Int) < (b : Int) := by omega
                    go_wp2_with fail
                    all_goals
                      go_end0
                      obtain ⟨k1, k2⟩ := merge_whole SA.out SB.out FF1.out FF2.out HS2.out HSS.out HT2.out (Stably.refl _)
                      exact ⟨rfl, C1 ++ (A2 ++ B2), by have := HR2.out; simpa using this, HG2.out, k1, by simpa [List.append_assoc] using k2⟩
                  · have hrrz1 : ¬ (mid : Int) < (en : Int) := by omega
                    go_wp2_with fail
                    all_goals
                      go_end0
                      obtain ⟨k1, k2⟩ := merge_whole SA.out SB.out FF1.out FF2.out HS2.out HSS.out HT2.out (Stably.refl _)
                      exact ⟨rfl, C1 ++ (A2 ++ B2), by have := HR2.out; simpa using this, HG2.out, k1, by simpa [List.append_assoc] using k2⟩
              · have hlz1 : ¬ (a : Int) < (st : Int) := by omega
                -- the right half
                have LC : Hid ((p ++ C1).length = mid) := by
                  show _ = _
                  have h1 := LLp.out; have h2 := LA1.out; have h3 := LB1.out
                  have h4 := HS.out
                  have : C1.length = (A1 ++ B1).length := stably_length HT2.out
                  simp at this ⊢; omega
                by_cases hright : mid < en ∧ en < b
                · obtain ⟨hr1, hr2⟩ := hright
                  have HL3 : Hid ((p ++ C1 ++ A2 ++ B2 ++ s).length = len) := by
                    show _ = _
                    have h1 := LLp.out; have h2 := LA1.out; have h3 := LB1.out; have h4 := LC.out; have h5 := HL.out
                    simp at h4 h5 ⊢; omega
                  have HC2 := hid (ih w2 g len cap mid en b (p ++ C1) A2 B2 s tl (by have := HR2.out; simpa using this) HL3.out LC.out (by have := LA2.out; omega) LB2.out hr1 hr2 SA.out.right SB.out.right hc hm (by omega))
                  have hrrz1 : (mid : Int) < (en : Int) := by omega
                  have hrrz2 : (en : Int) < (b : Int) := by omega
                  go_wp2_with fail
                  all_goals
                    refine HC2.out.mono ?_
                    rintro e w3 ⟨rfl, C2, hR3, hG3, hS3, hT3⟩
                    have HR3 := hid hR3
                    have HG3 : Hid (w.grownBy w3 (some g)) := only_trans HG2.out hG3
                    have HS3 := hid hS3
                    have HT3 := hid hT3
                    clear hR3 hG3 hS3 hT3 HC2 HR2 HG2
                    go_wp2_with fail
                    all_goals
                      go_end0
                      obtain ⟨k1, k2⟩ := merge_whole SA.out SB.out FF1.out FF2.out HS2.out HS3.out HT2.out HT3.out
                      exact ⟨rfl, C1 ++ C2, by have := HR3.out; simpa using this, HG3.out, k1, by simpa [List.append_assoc] using k2⟩
                · have HSS : Hid (SortedC (A2 ++ B2)) := by
                    show SortedC _
                    have := LA2.out; have := LB2.out
                    exact short_sorted SA.out.right SB.out.right (by omega)
                  by_cases hr1 : mid < en
                  · have hrrz1 : (mid : Int) < (en : Int) := by omega
                    have hrrz2 : ¬ (en : Int) < (b : Int) := by omega
                    go_wp2_with fail
                    all_goals
                      go_end0
                      obtain ⟨k1, k2⟩ := merge_whole SA.out SB.out FF1.out FF2.out HS2.out HSS.out HT2.out (Stably.refl _)
                      exact ⟨rfl, C1 ++ (A2 ++ B2), by have := HR2.out; simpa using this, HG2.out, k1, by simpa [List.append_assoc] using k2⟩
                  · have hrrz1 : ¬ (mid : Int) < (en : Int) := by omega
                    go_wp2_with fail
                    all_goals
                      go_end0
                      obtain ⟨k1, k2⟩ := merge_whole SA.out SB.out FF1.out FF2.out HS2.out HSS.out HT2.out (Stably.refl _)
                      exact ⟨rfl, C1 ++ (A2 ++ B2), by have := HR2.out; simpa using this, HG2.out, k1, by simpa [List.append_assoc] using k2⟩
end Go.Proofs.Ytndohmimcbmhdaa
