/- Texts of this claim, one behind the other. -/
import Derived.Test.YtndohmimcbmhdaaMz3
set_option linter.unusedVariables false
set_option linter.unusedSimpArgs false
namespace Go.Proofs.Ytndohmimcbmhdaa
open Go.RowKit Go.Sort

/-- The search for the place of y among A (which begins at a): below i none is greater, from j on all are. -/
def FindB (y : Int × Int) (A : List (Int × Int)) (a i j : Nat) : Prop := ∀ k c, A[k]? = some c → (a + k < i → c.1 ≤ y.1) ∧ (j ≤ a + k → y.1 < c.1)
theorem findB_low {y : Int × Int} {A : List (Int × Int)} {a i j h : Nat} {c : Int × Int} (hs : SortedC A) (hf : FindB y A a i j) (hc : A[h - a]? = some c) (hm : a ≤ h) (hl : ¬ y.1 < c.1) : FindB y A a (h + 1) j :=
  fun k d hd => ⟨fun hk => by have := sorted_get hs hd hc (by omega); omega, (hf k d hd).2⟩
theorem findB_high {y : Int × Int} {A : List (Int × Int)} {a i j h : Nat} {c : Int × Int} (hs : SortedC A) (hf : FindB y A a i j) (hc : A[h - a]? = some c) (hm : a ≤ h) (hl : y.1 < c.1) : FindB y A a i h :=
  fun k d hd => ⟨(hf k d hd).1, fun hk => by have := sorted_get hs hc hd (by omega); omega⟩

set_option maxRecDepth 100000 in
set_option maxHeartbeats 2000000 in
theorem symMergeB (w : World) (g len cap a m b : Nat) (p A s : List (Int × Int)) (y : Int × Int) (tl : List Value) (hr : Row w g (p ++ A ++ y :: s) tl) (hlen : (p ++ A ++ y :: s).length = len) (hP : p.length = a) (hX : a + A.length = m) (hX2 : a + 2 ≤ m) (hY : m + 1 = b) (hA : SortedC A) (hc : len ≤ cap) (hm : len ≤ 2305843009213693951) :
    Calls Try.prog 169 #[.slice (some ⟨g, 0, none⟩) len cap, .int .i64 a, .int .i64 m, .int .i64 b, .func (.func 94) #[] #[]] w fun e w' =>
      e = .returned (.tuple #[]) ∧ ∃ C, Row w' g (p ++ C ++ s) tl ∧ w.grownBy w' (some g) ∧ SortedC C ∧ Stably C (A ++ [y]) := by
  have hbl : b ≤ len := by simp at hlen; omega
  have hnone : (((m : Int) - (a : Int)) == 1) = false := by rw [beq_eq_false_iff_ne]; omega
  have hone : (((b : Int) - (m : Int)) == 1) = true := by rw [beq_iff_eq]; omega
  have hm1 : b ≤ m + 1 := by omega
  have hm2 : m + 1 ≤ b := by omega
  have HF : Hid (FindB y A a a m) := by
    intro k c hk
    have := (List.getElem?_eq_some_iff.1 hk).1
    exact ⟨fun h => by omega, fun h => by omega⟩
  have HR := hid hr
  have HL := hid hlen
  have HP := hid hP
  have HX := hid hX
  have HA := hid hA
  clear hr hlen hP hX hY hA
  go_enter Try.func169, Try.ntmps169
  go_wp2_with fail
  go_loopw [14, 15] (fun vi vj wr => ∃ i j : Nat, vi = .int .i64 i ∧ vj = .int .i64 j ∧ a ≤ i ∧ i ≤ j ∧ j ≤ m ∧ Hid (FindB y A a i j) ∧ Hid (Row wr g (p ++ A ++ y :: s) tl) ∧ Hid (w.grownBy wr (some g))) (fun vi vj _ => (intOf vj).toNat - (intOf vi).toNat)
  case atStart => exact ⟨a, m, rfl, rfl, by omega, by omega, by omega, HF, HR, only_refl _ _⟩
  case round =>
    obtain ⟨i, j, rfl, rfl, hi, hij, hjb, HFi, HRi, HGi⟩ := hrel
    by_cases hlt : i < j
    · have hltz : (i : Int) < (j : Int) := by omega
      obtain ⟨h, eh, h1, h2⟩ : ∃ h : Nat, ((i : Int) + (j : Int)) / 2 = (h : Int) ∧ i ≤ h ∧ h < j := ⟨(i + j) / 2, by omega, by omega, by omega⟩
      have EH := hid eh
      obtain ⟨c, hcB⟩ : ∃ c, A[h - a]? = some c := ⟨_, List.getElem?_eq_getElem (by have := HX.out; omega)⟩
      have e1 : (p ++ A ++ y :: s)[h]? = some c := by
        have hp := HP.out
        have hy := HX.out
        rw [List.append_assoc, List.getElem?_append_right (by omega), List.getElem?_append_left (by omega)]
        have e : h - p.length = h - a := by omega
        rw [e, hcB]
      have e0 : (p ++ A ++ y :: s)[m]? = some y := by
        have e : (p ++ A).length = m := by have := HP.out; have := HX.out; simp; omega
        rw [← e]; exact get_at
      have c0 : ∀ n os, (grow (wr.drewN n) os).cell? ⟨g, h * 2, none⟩ = some (.int .u64 c.1) := fun n os => (HRi.out.grow n os).cell0 e1
      have c1 : ∀ n os, (grow (wr.drewN n) os).cell? ⟨g, h * 2 + 1, none⟩ = some (.int .i64 c.2) := fun n os => (HRi.out.grow n os).cell1 e1
      have c2 : ∀ n os, (grow (wr.drewN n) os).cell? ⟨g, m * 2, none⟩ = some (.int .u64 y.1) := fun n os => (HRi.out.grow n os).cell0 e0
      have c3 : ∀ n os, (grow (wr.drewN n) os).cell? ⟨g, m * 2 + 1, none⟩ = some (.int .i64 y.2) := fun n os => (HRi.out.grow n os).cell1 e0
      have hz1 : (h : Int) < (len : Int) := by omega
      have hz2 : (m : Int) < (len : Int) := by omega
      have hz3 : (0 : Int) ≤ (h : Int) := by omega
      have hz4 : (0 : Int) ≤ (m : Int) := by omega
      have mixed : Try.prog.follows .mixedOrders = true := by kernel_rfl
      have CB := hid hcB
      clear eh e0 e1 hcB
      go_wp2_with fail
      rw [EH.out]
      by_cases hless : y.1 < c.1
      · have hcmp : cmpI y.1 c.1 < 0 := cmpI_neg.2 hless
        go_quiet_grown (first | (go_at_call 94; refine Calls.grown_of (cmp94 y c _)))
        go_wp2_with fail
        have RQ := HRi.out.grow nq osq
        have GQ := only_below HGi.out (grown_below nq osq)
        go_roundw
        case measure => simp [intOf] <;> omega
        case rel => exact ⟨i, h, by first | rfl | go_num, by first | rfl | go_num, by omega, by omega, by omega, findB_high HA.out HFi.out CB.out (by omega) hless, RQ, GQ⟩
      · have hcmp : ¬ cmpI y.1 c.1 < 0 := fun hh => hless (cmpI_neg.1 hh)
        go_quiet_grown (first | (go_at_call 94; refine Calls.grown_of (cmp94 y c _)))
        go_wp2_with fail
        have RQ := HRi.out.grow nq osq
        have GQ := only_below HGi.out (grown_below nq osq)
        go_roundw
        case measure => simp [intOf] <;> omega
        case rel => exact ⟨h + 1, j, by go_num, by first | rfl | go_num, by omega, by omega, by omega, findB_low HA.out HFi.out CB.out (by omega) hless, RQ, GQ⟩
    · have hltz : ¬ (i : Int) < (j : Int) := by omega
      obtain rfl : i = j := by omega
      have hy := HX.out
      obtain ⟨A1, A2, hBB, hl1⟩ : ∃ A1 A2, A = A1 ++ A2 ∧ A1.length = i - a := ⟨A.take (i - a), A.drop (i - a), by simp, by rw [List.length_take]; omega⟩
      have hl2 : A2.length = m - i := by rw [hBB] at hy; simp at hy; omega
      have HS1 : Hid (∀ c ∈ A1, c.1 ≤ y.1) := by
        intro c hc
        obtain ⟨k, hk, rfl⟩ := List.getElem_of_mem hc
        have hb1 : A[k]? = some A1[k] := by rw [hBB, List.getElem?_append_left hk]; exact List.getElem?_eq_getElem hk
        exact (HFi.out k _ hb1).1 (by omega)
      have HS2 : Hid (∀ c ∈ A2, y.1 < c.1) := by
        intro c hc
        obtain ⟨k, hk, rfl⟩ := List.getElem_of_mem hc
        have hb1 : A[A1.length + k]? = some A2[k] := by rw [hBB, List.getElem?_append_right (by omega)]; simp [hk]
        exact (HFi.out _ _ hb1).2 (by omega)
      have HBB := hid hBB
      have H1 := hid hl1
      have H2 := hid hl2
      have HS0 : Hid (Row wr g (p ++ A1 ++ A2.take (m - i) ++ y :: (A2.drop (m - i) ++ s)) tl) := by
        show Row _ _ _ _
        have := HRi.out
        rw [hBB] at this
        rw [← hl2, List.take_length, List.drop_length]
        simpa using this
      have him : i ≤ m := by omega
      clear hy hBB hl1 hl2 HFi HRi
      go_wp2_with fail
      go_loopw [17] (fun vk wr2 => ∃ t : Nat, vk = .int .i64 ((i + t : Nat) : Int) ∧ i + t ≤ m ∧ Hid (Row wr2 g (p ++ A1 ++ A2.take t ++ y :: (A2.drop t ++ s)) tl) ∧ Hid (w.grownBy wr2 (some g))) (fun vk _ => (intOf vk).toNat - i)
      case atStart => exact ⟨m - i, by congr 1; omega, by omega, HS0, HGi⟩
      case round =>
        obtain ⟨t, rfl, hti, HRt, HGt⟩ := hrel
        by_cases hlt2 : 0 < t
        · obtain ⟨t, rfl⟩ : ∃ t', t = t' + 1 := ⟨t - 1, by omega⟩
          obtain ⟨k, ek⟩ : ∃ k, k = i + t := ⟨_, rfl⟩
          have ek2 : i + (t + 1) = k + 1 := by omega
          rw [ek2] at hti ⊢
          have hz0 : (i : Int) < (k : Int) + 1 := by omega
          obtain ⟨z, hz⟩ : ∃ z, A2[t]? = some z := ⟨_, List.getElem?_eq_getElem (by have := H2.out; omega)⟩
          have hd : A2.drop t = z :: A2.drop (t + 1) := by
            obtain ⟨hl, rfl⟩ := List.getElem?_eq_some_iff.1 hz
            exact List.drop_eq_getElem_cons hl
          have ht : A2.take (t + 1) = A2.take t ++ [z] := by rw [List.take_add_one, hz]; rfl
          have hpl : (p ++ A1 ++ A2.take t).length = k := by
            have := HP.out; have := H1.out; have := H2.out
            rw [List.length_append, List.length_append, List.length_take]; omega
          have hR := HRt.out
          rw [ht] at hR
          have hre : p ++ A1 ++ (A2.take t ++ [z]) ++ y :: (A2.drop (t + 1) ++ s) = (p ++ A1 ++ A2.take t) ++ z :: y :: (A2.drop (t + 1) ++ s) := by simp
          rw [hre] at hR
          have e0 : ((p ++ A1 ++ A2.take t) ++ z :: y :: (A2.drop (t + 1) ++ s))[k]? = some z := by rw [← hpl]; exact get_at
          have e1 : ((p ++ A1 ++ A2.take t) ++ z :: y :: (A2.drop (t + 1) ++ s))[k + 1]? = some y := by rw [← hpl]; exact get_at1
          obtain ⟨u, ⟨d0, d1, d2, d3⟩, ⟨f0, f1⟩, ⟨d4, d5, f2, f3⟩, RZ, GZ⟩ := hR.swapFacts HGt.out e1 e0
          have RZ2 : Hid (Row (((((wr.setCell ⟨g, (k + 1) * 2, none⟩ (.int .u64 z.1)).setCell ⟨g, (k + 1) * 2 + 1, none⟩ (.int .i64 z.2)).setCell ⟨g, k * 2, none⟩ (.int .u64 y.1)).setCell ⟨g, k * 2 + 1, none⟩ (.int .i64 y.2))) g (p ++ A1 ++ A2.take t ++ y :: (A2.drop t ++ s)) tl) := by
            show Row _ _ _ _
            have := RZ.out
            have e := swap_at (A := p ++ A1 ++ A2.take t) (B := A2.drop (t + 1) ++ s) (x := y) (y := z)
            rw [hpl] at e
            rw [e] at this
            rw [hd]
            simpa using this
          have hz1 : (k : Int) + 1 < (len : Int) := by omega
          have hz2 : (k : Int) < (len : Int) := by omega
          have EK := hid ek
          clear hz hd ht hpl hR hre e0 e1 RZ ek ek2
          go_wp2_with fail
          go_region
          all_goals
            go_wp2_with fail
            go_roundw
            case measure => simp [intOf] <;> omega
            case rel => exact ⟨t, by rw [← EK.out], by have := EK.out; omega, RZ2.out.drew, only_drew GZ.out⟩
        · have ht0 : Hid (t = 0) := by show t = 0; omega
          have hz0 : ¬ (i : Int) < ((i + t : Nat) : Int) := by omega
          go_wp2_with fail
          refine bodyPost_ret (results_none rfl _ _ _) rfl ?_
          have hb := HA.out
          have hbb := HBB.out
          have hR := HRt.out
          rw [ht0.out] at hR
          refine ⟨rfl, A1 ++ y :: A2, by simpa using hR, HGt.out, ?_, ?_⟩
          · rw [hbb] at hb
            exact insert_sorted hb HS2.out HS1.out
          · rw [hbb]; exact insert_stably HS2.out
end Go.Proofs.Ytndohmimcbmhdaa

set_option linter.unusedVariables false
set_option linter.unusedSimpArgs false
namespace Go.Proofs.Ytndohmimcbmhdaa
open Go.RowKit Go.Sort

/-- The search where A and B are parted: below st A's one is at most its opposite of B, from r on it is greater. -/
def FindC (A B : List (Int × Int)) (a mid st0 r0 st r : Nat) : Prop := ∀ c x y, A[c - a]? = some x → B[mid - 1 - c]? = some y → st0 ≤ c → c < r0 → (c < st → x.1 ≤ y.1) ∧ (r ≤ c → y.1 < x.1)

/-- From where to where it goes. -/
def RangeC (a m mid b st0 r0 : Nat) : Prop := (mid < m ∧ st0 + b = mid + m ∧ r0 = mid) ∨ (m ≤ mid ∧ st0 = a ∧ r0 = m)

theorem findC_low {A B : List (Int × Int)} {a mid st0 r0 st r c : Nat} {x y : Int × Int} (hA : SortedC A) (hB : SortedC B) (hf : FindC A B a mid st0 r0 st r) (hx : A[c - a]? = some x) (hy : B[mid - 1 - c]? = some y) (hc : a ≤ c) (hm : c < mid) (ha : a ≤ st0)
    (hl : x.1 ≤ y.1) : FindC A B a mid st0 r0 (c + 1) r := fun k u v hu hv h0 h1 =>
  ⟨fun hk => by
    have e1 := sorted_get hA hu hx (by omega)
    have e2 := sorted_get hB hy hv (by omega)
    omega, (hf k u v hu hv h0 h1).2⟩
theorem findC_high {A B : List (Int × Int)} {a mid st0 r0 st r c : Nat} {x y : Int × Int} (hA : SortedC A) (hB : SortedC B) (hf : FindC A B a mid st0 r0 st r) (hx : A[c - a]? = some x) (hy : B[mid - 1 - c]? = some y) (hc : a ≤ c) (hm : c < mid) (ha : a ≤ st0)
    (hl : y.1 < x.1) : FindC A B a mid st0 r0 st c := fun k u v hu hv h0 h1 =>
  ⟨(hf k u v hu hv h0 h1).1, fun hk => by
    have e1 := sorted_get hA hx hu (by omega)
    have e2 := sorted_get hB hv hy (by omega)
    omega⟩

theorem split_facts {A B : List (Int × Int)} {a m mid b st0 r0 st : Nat} (hA : SortedC A) (hB : SortedC B) (hAl : a + A.length = m) (hBl : m + B.length = b) (hmid : mid * 2 ≤ a + b) (hmid2 : a + b ≤ mid * 2 + 1)
    (hr : RangeC a m mid b st0 r0) (h0 : st0 ≤ st) (h1 : st ≤ r0) (hf : FindC A B a mid st0 r0 st st) :
    ∃ A1 A2 B1 B2, A = A1 ++ A2 ∧ B = B1 ++ B2 ∧ A1.length = st - a ∧ B1.length = mid - st ∧ (∀ x ∈ A1, ∀ y ∈ B2, x.1 ≤ y.1) ∧ (∀ x ∈ A2, ∀ y ∈ B1, y.1 < x.1) := by
  have hb : a ≤ st0 ∧ r0 ≤ mid ∧ r0 ≤ m ∧ mid + m ≤ st0 + b := by rcases hr with ⟨_, _, _⟩ | ⟨_, _, _⟩ <;> omega
  refine ⟨A.take (st - a), A.drop (st - a), B.take (mid - st), B.drop (mid - st), by simp, by simp, by rw [List.length_take]; omega, by rw [List.length_take]; omega, ?_, ?_⟩
  · intro x hx y hy
    obtain ⟨k, hk, rfl⟩ := List.getElem_of_mem hx
    obtain ⟨l, hl, rfl⟩ := List.getElem_of_mem hy
    rw [List.length_take] at hk
    rw [List.length_drop] at hl
    have gx : A[k]? = some (A.take (st - a))[k] := by rw [List.getElem_take]; exact List.getElem?_eq_getElem (by omega)
    have gy : B[mid - st + l]? = some (B.drop (mid - st))[l] := by rw [List.getElem_drop]; exact List.getElem?_eq_getElem (by omega)
    by_cases hs : st = st0
    · exfalso
      rcases hr with ⟨_, _, _⟩ | ⟨_, _, _⟩ <;> omega
    · obtain ⟨u, hu⟩ : ∃ u, A[st - 1 - a]? = some u := ⟨_, List.getElem?_eq_getElem (by omega)⟩
      obtain ⟨v, hv⟩ : ∃ v, B[mid - 1 - (st - 1)]? = some v := ⟨_, List.getElem?_eq_getElem (by omega)⟩
      have e := (hf (st - 1) u v hu hv (by omega) (by omega)).1 (by omega)
      have e1 := sorted_get hA gx hu (by omega)
      have e2 := sorted_get hB hv gy (by omega)
      omega
  · intro x hx y hy
    obtain ⟨k, hk, rfl⟩ := List.getElem_of_mem hx
    obtain ⟨l, hl, rfl⟩ := List.getElem_of_mem hy
    rw [List.length_drop] at hk
    rw [List.length_take] at hl
    have gx : A[st - a + k]? = some (A.drop (st - a))[k] := by rw [List.getElem_drop]; exact List.getElem?_eq_getElem (by omega)
    have gy : B[l]? = some (B.take (mid - st))[l] := by rw [List.getElem_take]; exact List.getElem?_eq_getElem (by omega)
    by_cases hs : st = r0
    · exfalso
      rcases hr with ⟨_, _, _⟩ | ⟨_, _, _⟩ <;> omega
    · obtain ⟨u, hu⟩ : ∃ u, A[st - a]? = some u := ⟨_, List.getElem?_eq_getElem (by omega)⟩
      obtain ⟨v, hv⟩ : ∃ v, B[mid - 1 - st]? = some v := ⟨_, List.getElem?_eq_getElem (by omega)⟩
      have e := (hf st u v hu hv (by omega) (by omega)).2 (by omega)
      have e1 := sorted_get hA hu gx (by omega)
      have e2 := sorted_get hB gy hv (by omega)
      omega

theorem merge_whole {A1 A2 B1 B2 C1 C2 : List (Int × Int)} (hA : SortedC (A1 ++ A2)) (hB : SortedC (B1 ++ B2)) (h1 : ∀ x ∈ A1, ∀ y ∈ B2, x.1 ≤ y.1) (h2 : ∀ x ∈ A2, ∀ y ∈ B1, y.1 < x.1)
    (s1 : SortedC C1) (s2 : SortedC C2) (t1 : Stably C1 (A1 ++ B1)) (t2 : Stably C2 (A2 ++ B2)) : SortedC (C1 ++ C2) ∧ Stably (C1 ++ C2) (A1 ++ A2 ++ (B1 ++ B2)) := by
  refine ⟨SortedC.append s1 s2 ?_, ?_⟩
  · intro x hx y hy
    have hx' := t1.mem hx
    have hy' := t2.mem hy
    rcases List.mem_append.1 hx' with hx' | hx' <;> rcases List.mem_append.1 hy' with hy' | hy'
    · exact hA.cross x hx' y hy'
    · exact h1 x hx' y hy'
    · have := h2 y hy' x hx'; omega
    · exact hB.cross x hx' y hy'
  · refine Stably.trans (Stably.append t1 t2) ?_
    have e1 : A1 ++ B1 ++ (A2 ++ B2) = A1 ++ ((B1 ++ A2) ++ B2) := by simp
    have e2 : A1 ++ A2 ++ (B1 ++ B2) = A1 ++ ((A2 ++ B1) ++ B2) := by simp
    rw [e1, e2]
    exact Stably.append (Stably.refl _) (Stably.append (Stably.symm (stably_swap h2)) (Stably.refl _))

/-- What symMerge is to do, of at most N between a and b. -/
def SymSaid (N : Nat) : Prop := ∀ (w : World) (g len cap a m b : Nat) (p A B s : List (Int × Int)) (tl : List Value), Row w g (p ++ A ++ B ++ s) tl → (p ++ A ++ B ++ s).length = len → p.length = a → a + A.length = m → m + B.length = b → a < m → m < b → SortedC A → SortedC B →
    len ≤ cap → len ≤ 2305843009213693951 → b ≤ a + N →
    Calls Try.prog 169 #[.slice (some ⟨g, 0, none⟩) len cap, .int .i64 a, .int .i64 m, .int .i64 b, .func (.func 94) #[] #[]] w fun e w' =>
      e = .returned (.tuple #[]) ∧ ∃ C, Row w' g (p ++ C ++ s) tl ∧ w.grownBy w' (some g) ∧ SortedC C ∧ Stably C (A ++ B)

theorem short_sorted {A B : List (Int × Int)} (hA : SortedC A) (hB : SortedC B) (h : A.length = 0 ∨ B.length = 0) : SortedC (A ++ B) := by
  rcases h with h | h
  · rw [List.eq_nil_of_length_eq_zero h]; exact hB
  · rw [List.eq_nil_of_length_eq_zero h, List.append_nil]; exact hA
end Go.Proofs.Ytndohmimcbmhdaa
