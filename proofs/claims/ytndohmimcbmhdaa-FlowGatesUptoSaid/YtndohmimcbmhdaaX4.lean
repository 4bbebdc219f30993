import Derived.Test.YtndohmimcbmhdaaX3
set_option linter.unusedVariables false
set_option linter.unusedSimpArgs false
namespace Go.Proofs.Ytndohmimcbmhdaa
open Go.RowKit Go.Sort

/-- The search for the place of y among A (which begins at a): below i none is greater, from j on all are. -/
def FindB (y : Int × Int) (A : List (Int × Int)) (a i j : Nat) : Prop := ∀ k c, A[k]? = some c → (a + k < i → c.1 ≤ y.1) ∧ (j ≤ a + k → y.1 < c.1)
theorem findB_low {y : Int × Int} {A : List (Int × Int)} {a i j h : Nat} {c : Int × Int} (hs : SortedC A) (hf : FindB y A a i j) (hc : A[h - a]? = some c) (hm : a ≤ h) (hl : ¬ y.1 < c.1) : FindB y A a (h + 1) j :=
  fun k d hd => ⟨fun hk => by have := sorted_get hs hd hc (by omega); omega, (hf k d hd).2⟩
theorem findB_high {y : Int × Int} {A : List (Int × Int)} {a i j h : Nat} {c : Int × Int} (hs : SortedC A) (hf : FindB y A a i j) (hc : A[h - a]? = some c) (hm : a ≤ h) (hl : y.1 < c.1) : FindB y A a i h :=
  fun k d hd => ⟨(hf k d hd).1, fun hk => by have := sorted_get hs hc hd (by omega); omega⟩

set_option maxRecDepth 100000 in
set_option maxHeartbeats 2000000 in
theorem symMergeB (w : World) (g len cap a m b : Nat) (p A s : List (Int × Int)) (y : Int × Int) (tl : List Value) (hr : Row w g (p ++ A ++ y :: s) tl) (hlen : (p ++ A ++ y :: s).length = len) (hP : p.length = a) (hX : a + A.length = m) (hX2 : a + 2 ≤ m) (hY : m + 1 = b) (hA : SortedC A) (hc : len ≤ cap) (hm : len ≤ 2305843009213693951) :
    Calls Try.prog 169 #[.slice (some ⟨g, 0, none⟩) len cap, .int .i64 a, .int .i64 m, .int .i64 b, .func (.func 94) #[] #[]] w fun e w' =>
      e = .returned (.tuple #[]) ∧ ∃ C, Row w' g (p ++ C ++ s) tl ∧ w.grownBy w' (some g) ∧ SortedC C ∧ Stably C (A ++ [y]) := by
  have hbl : b ≤ len := by simp at hlen; omega
  have hnone : (((m : Int) - (a : Int)) == 1) = false := by rw [beq_eq_false_iff_ne]; omega
  have hone : (((b : Int) - (m : Int)) == 1) = true := by rw [beq_iff_eq]; omega
  have hm1 : b ≤ m + 1 := by omega
  have hm2 : m + 1 ≤ b := by omega
  have HF : Hid (FindB y A a a m) := by
    intro k c hk
    have := (List.getElem?_eq_some_iff.1 hk).1
    exact ⟨fun h => by omega, fun h => by omega⟩
  have HR := hid hr
  have HL := hid hlen
  have HP := hid hP
  have HX := hid hX
  have HA := hid hA
  clear hr hlen hP hX hY hA
  go_enter Try.func169, Try.ntmps169
  go_wp2_with fail
  go_loopw [14, 15] (fun vi vj wr => ∃ i j : Nat, vi = .int .i64 i ∧ vj = .int .i64 j ∧ a ≤ i ∧ i ≤ j ∧ j ≤ m ∧ Hid (FindB y A a i j) ∧ Hid (Row wr g (p ++ A ++ y :: s) tl) ∧ Hid (w.grownBy wr (some g))) (fun vi vj _ => (intOf vj).toNat - (intOf vi).toNat)
  case atStart => exact ⟨a, m, rfl, rfl, by omega, by omega, by omega, HF, HR, only_refl _ _⟩
  case round =>
    obtain ⟨i, j, rfl, rfl, hi, hij, hjb, HFi, HRi, HGi⟩ := hrel
    by_cases hlt : i < j
    · have hltz : (i : Int) < (j : Int) := by omega
      obtain ⟨h, eh, h1, h2⟩ : ∃ h : Nat, ((i : Int) + (j : Int)) / 2 = (h : Int) ∧ i ≤ h ∧ h < j := ⟨(i + j) / 2, by omega, by omega, by omega⟩
      have EH := hid eh
      obtain ⟨c, hcB⟩ : ∃ c, A[h - a]? = some c := ⟨_, List.getElem?_eq_getElem (by have := HX.out; omega)⟩
      have e1 : (p ++ A ++ y :: s)[h]? = some c := by
        have hp := HP.out
        have hy := HX.out
        rw [List.append_assoc, List.getElem?_append_right (by omega), List.getElem?_append_left (by omega)]
        have e : h - p.length = h - a := by omega
        rw [e, hcB]
      have e0 : (p ++ A ++ y :: s)[m]? = some y := by
        have e : (p ++ A).length = m := by have := HP.out; have := HX.out; simp; omega
        rw [← e]; exact get_at
      have c0 : ∀ n os, (grow (wr.drewN n) os).cell? ⟨g, h * 2, none⟩ = some (.int .u64 c.1) := fun n os => (HRi.out.grow n os).cell0 e1
      have c1 : ∀ n os, (grow (wr.drewN n) os).cell? ⟨g, h * 2 + 1, none⟩ = some (.int .i64 c.2) := fun n os => (HRi.out.grow n os).cell1 e1
      have c2 : ∀ n os, (grow (wr.drewN n) os).cell? ⟨g, m * 2, none⟩ = some (.int .u64 y.1) := fun n os => (HRi.out.grow n os).cell0 e0
      have c3 : ∀ n os, (grow (wr.drewN n) os).cell? ⟨g, m * 2 + 1, none⟩ = some (.int .i64 y.2) := fun n os => (HRi.out.grow n os).cell1 e0
      have hz1 : (h : Int) < (len : Int) := by omega
      have hz2 : (m : Int) < (len : Int) := by omega
      have hz3 : (0 : Int) ≤ (h : Int) := by omega
      have hz4 : (0 : Int) ≤ (m : Int) := by omega
      have mixed : Try.prog.follows .mixedOrders = true := by kernel_rfl
      have CB := hid hcB
      clear eh e0 e1 hcB
      go_wp2_with fail
      rw [EH.out]
      by_cases hless : y.1 < c.1
      · have hcmp : cmpI y.1 c.1 < 0 := cmpI_neg.2 hless
        go_quiet_grown (first | (go_at_call 94; refine Calls.grown_of (cmp94 y c _)))
        go_wp2_with fail
        have RQ := HRi.out.grow nq osq
        have GQ := only_below HGi.out (grown_below nq osq)
        go_roundw
        case measure => simp [intOf] <;> omega
        case rel => exact ⟨i, h, by first | rfl | go_num, by first | rfl | go_num, by omega, by omega, by omega, findB_high HA.out HFi.out CB.out (by omega) hless, RQ, GQ⟩
      · have hcmp : ¬ cmpI y.1 c.1 < 0 := fun hh => hless (cmpI_neg.1 hh)
        go_quiet_grown (first | (go_at_call 94; refine Calls.grown_of (cmp94 y c _)))
        go_wp2_with fail
        have RQ := HRi.out.grow nq osq
        have GQ := only_below HGi.out (grown_below nq osq)
        go_roundw
        case measure => simp [intOf] <;> omega
        case rel => exact ⟨h + 1, j, by go_num, by first | rfl | go_num, by omega, by omega, by omega, findB_low HA.out HFi.out CB.out (by omega) hless, RQ, GQ⟩
    · have hltz : ¬ (i : Int) < (j : Int) := by omega
      obtain rfl : i = j := by omega
      have hy := HX.out
      obtain ⟨A1, A2, hBB, hl1⟩ : ∃ A1 A2, A = A1 ++ A2 ∧ A1.length = i - a := ⟨A.take (i - a), A.drop (i - a), by simp, by rw [List.length_take]; omega⟩
      have hl2 : A2.length = m - i := by rw [hBB] at hy; simp at hy; omega
      have HS1 : Hid (∀ c ∈ A1, c.1 ≤ y.1) := by
        intro c hc
        obtain ⟨k, hk, rfl⟩ := List.getElem_of_mem hc
        have hb1 : A[k]? = some A1[k] := by rw [hBB, List.getElem?_append_left hk]; exact List.getElem?_eq_getElem hk
        exact (HFi.out k _ hb1).1 (by omega)
      have HS2 : Hid (∀ c ∈ A2, y.1 < c.1) := by
        intro c hc
        obtain ⟨k, hk, rfl⟩ := List.getElem_of_mem hc
        have hb1 : A[A1.length + k]? = some A2[k] := by rw [hBB, List.getElem?_append_right (by omega)]; simp [hk]
        exact (HFi.out _ _ hb1).2 (by omega)
      have HBB := hid hBB
      have H1 := hid hl1
      have H2 := hid hl2
      have HS0 : Hid (Row wr g (p ++ A1 ++ A2.take (m - i) ++ y :: (A2.drop (m - i) ++ s)) tl) := by
        show Row _ _ _ _
        have := HRi.out
        rw [hBB] at this
        rw [← hl2, List.take_length, List.drop_length]
        simpa using this
      have him : i ≤ m := by omega
      clear hy hBB hl1 hl2 HFi HRi
      go_wp2_with fail
      go_loopw [17] (fun vk wr2 => ∃ t : Nat, vk = .int .i64 ((i + t : Nat) : Int) ∧ i + t ≤ m ∧ Hid (Row wr2 g (p ++ A1 ++ A2.take t ++ y :: (A2.drop t ++ s)) tl) ∧ Hid (w.grownBy wr2 (some g))) (fun vk _ => (intOf vk).toNat - i)
      case atStart => exact ⟨m - i, by congr 1; omega, by omega, HS0, HGi⟩
      case round =>
        obtain ⟨t, rfl, hti, HRt, HGt⟩ := hrel
        by_cases hlt2 : 0 < t
        · obtain ⟨t, rfl⟩ : ∃ t', t = t' + 1 := ⟨t - 1, by omega⟩
          obtain ⟨k, ek⟩ : ∃ k, k = i + t := ⟨_, rfl⟩
          have ek2 : i + (t + 1) = k + 1 := by omega
          rw [ek2] at hti ⊢
          have hz0 : (i : Int) < (k : Int) + 1 := by omega
          obtain ⟨z, hz⟩ : ∃ z, A2[t]? = some z := ⟨_, List.getElem?_eq_getElem (by have := H2.out; omega)⟩
          have hd : A2.drop t = z :: A2.drop (t + 1) := by
            obtain ⟨hl, rfl⟩ := List.getElem?_eq_some_iff.1 hz
            exact List.drop_eq_getElem_cons hl
          have ht : A2.take (t + 1) = A2.take t ++ [z] := by rw [List.take_add_one, hz]; rfl
          have hpl : (p ++ A1 ++ A2.take t).length = k := by
            have := HP.out; have := H1.out; have := H2.out
            rw [List.length_append, List.length_append, List.length_take]; omega
          have hR := HRt.out
          rw [ht] at hR
          have hre : p ++ A1 ++ (A2.take t ++ [z]) ++ y :: (A2.drop (t + 1) ++ s) = (p ++ A1 ++ A2.take t) ++ z :: y :: (A2.drop (t + 1) ++ s) := by simp
          rw [hre] at hR
          have e0 : ((p ++ A1 ++ A2.take t) ++ z :: y :: (A2.drop (t + 1) ++ s))[k]? = some z := by rw [← hpl]; exact get_at
          have e1 : ((p ++ A1 ++ A2.take t) ++ z :: y :: (A2.drop (t + 1) ++ s))[k + 1]? = some y := by rw [← hpl]; exact get_at1
          obtain ⟨u, ⟨d0, d1, d2, d3⟩, ⟨f0, f1⟩, ⟨d4, d5, f2, f3⟩, RZ, GZ⟩ := hR.swapFacts HGt.out e1 e0
          have RZ2 : Hid (Row (((((wr.setCell ⟨g, (k + 1) * 2, none⟩ (.int .u64 z.1)).setCell ⟨g, (k + 1) * 2 + 1, none⟩ (.int .i64 z.2)).setCell ⟨g, k * 2, none⟩ (.int .u64 y.1)).setCell ⟨g, k * 2 + 1, none⟩ (.int .i64 y.2))) g (p ++ A1 ++ A2.take t ++ y :: (A2.drop t ++ s)) tl) := by
            show Row _ _ _ _
            have := RZ.out
            have e := swap_at (A := p ++ A1 ++ A2.take t) (B := A2.drop (t + 1) ++ s) (x := y) (y := z)
            rw [hpl] at e
            rw [e] at this
            rw [hd]
            simpa using this
          have hz1 : (k : Int) + 1 < (len : Int) := by omega
          have hz2 : (k : Int) < (len : Int) := by omega
          have EK := hid ek
          clear hz hd ht hpl hR hre e0 e1 RZ ek ek2
          go_wp2_with fail
          go_region
          all_goals
            go_wp2_with fail
            go_roundw
            case measure => simp [intOf] <;> omega
            case rel => exact ⟨t, by rw [← EK.out], by have := EK.out; omega, RZ2.out.drew, only_drew GZ.out⟩
        · have ht0 : Hid (t = 0) := by show t = 0; omega
          have hz0 : ¬ (i : Int) < ((i + t : Nat) : Int) := by omega
          go_wp2_with fail
          refine bodyPost_ret (results_none rfl _ _ _) rfl ?_
          have hb := HA.out
          have hbb := HBB.out
          have hR := HRt.out
          rw [ht0.out] at hR
          refine ⟨rfl, A1 ++ y :: A2, by simpa using hR, HGt.out, ?_, ?_⟩
          · rw [hbb] at hb
            exact insert_sorted hb HS2.out HS1.out
          · rw [hbb]; exact insert_stably HS2.out
end Go.Proofs.Ytndohmimcbmhdaa
