import Derived.Test.YtndohmimcbmhdaaRot
import Derived.BigQuiet
set_option linter.unusedVariables false
set_option linter.unusedSimpArgs false
namespace Go.Proofs.Ytndohmimcbmhdaa
open Go.RowKit Go.Sort

/-- The search for the place of x among B (which begins at m): below i all are less, from j on none is. -/
def FindA (x : Int × Int) (B : List (Int × Int)) (m i j : Nat) : Prop := ∀ k c, B[k]? = some c → (m + k < i → c.1 < x.1) ∧ (j ≤ m + k → x.1 ≤ c.1)

theorem sorted_get {B : List (Int × Int)} (hs : SortedC B) {k l : Nat} {c d : Int × Int} (hc : B[k]? = some c) (hd : B[l]? = some d) (h : k ≤ l) : c.1 ≤ d.1 := by
  rcases Nat.lt_or_eq_of_le h with h | h
  · obtain ⟨lk, rfl⟩ := List.getElem?_eq_some_iff.1 hc
    obtain ⟨ll, rfl⟩ := List.getElem?_eq_some_iff.1 hd
    exact List.pairwise_iff_getElem.1 hs k l lk ll h
  · subst h; rw [hc] at hd; cases hd; omega

theorem findA_low {x : Int × Int} {B : List (Int × Int)} {m i j h : Nat} {c : Int × Int} (hs : SortedC B) (hf : FindA x B m i j) (hc : B[h - m]? = some c) (hm : m ≤ h) (hl : c.1 < x.1) : FindA x B m (h + 1) j :=
  fun k d hd => ⟨fun hk => by have := sorted_get hs hd hc (by omega); omega, (hf k d hd).2⟩
theorem findA_high {x : Int × Int} {B : List (Int × Int)} {m i j h : Nat} {c : Int × Int} (hs : SortedC B) (hf : FindA x B m i j) (hc : B[h - m]? = some c) (hm : m ≤ h) (hl : ¬ c.1 < x.1) : FindA x B m i h :=
  fun k d hd => ⟨(hf k d hd).1, fun hk => by have := sorted_get hs hc hd (by omega); omega⟩

set_option maxRecDepth 100000 in
set_option maxHeartbeats 2000000 in
theorem symMergeA (w : World) (g len cap a m b : Nat) (p B s : List (Int × Int)) (x : Int × Int) (tl : List Value) (hr : Row w g (p ++ [x] ++ B ++ s) tl) (hlen : (p ++ [x] ++ B ++ s).length = len) (hP : p.length = a) (hX : a + 1 = m) (hY : m + B.length = b) (hB : SortedC B) (hc : len ≤ cap) (hm : len ≤ 2305843009213693951) :
    Calls Try.prog 169 #[.slice (some ⟨g, 0, none⟩) len cap, .int .i64 a, .int .i64 m, .int .i64 b, .func (.func 94) #[] #[]] w fun e w' =>
      e = .returned (.tuple #[]) ∧ ∃ C, Row w' g (p ++ C ++ s) tl ∧ w.grownBy w' (some g) ∧ SortedC C ∧ Stably C (x :: B) := by
  have hbl : b ≤ len := by simp at hlen; omega
  have hone : (((m : Int) - (a : Int)) == 1) = true := by rw [beq_iff_eq]; omega
  have hm1 : m ≤ a + 1 := by omega
  have hm2 : a + 1 ≤ m := by omega
  have HF : Hid (FindA x B m m b) := by
    intro k c hk
    have := (List.getElem?_eq_some_iff.1 hk).1
    exact ⟨fun h => by omega, fun h => by omega⟩
  have HR := hid hr
  have HL := hid hlen
  have HP := hid hP
  have HY := hid hY
  have HB := hid hB
  have hab : m ≤ b := by omega
  clear hr hlen hP hX hY hB
  go_enter Try.func169, Try.ntmps169
  go_wp2_with fail
  go_loopw [10, 11] (fun vi vj wr => ∃ i j : Nat, vi = .int .i64 i ∧ vj = .int .i64 j ∧ m ≤ i ∧ i ≤ j ∧ j ≤ b ∧ Hid (FindA x B m i j) ∧ Hid (Row wr g (p ++ [x] ++ B ++ s) tl) ∧ Hid (w.grownBy wr (some g))) (fun vi vj _ => (intOf vj).toNat - (intOf vi).toNat)
  case atStart => exact ⟨m, b, rfl, rfl, by omega, by omega, by omega, HF, HR, only_refl _ _⟩
  case round =>
    obtain ⟨i, j, rfl, rfl, hi, hij, hjb, HFi, HRi, HGi⟩ := hrel
    by_cases hlt : i < j
    · have hltz : (i : Int) < (j : Int) := by omega
      obtain ⟨h, eh, h1, h2⟩ : ∃ h : Nat, ((i : Int) + (j : Int)) / 2 = (h : Int) ∧ i ≤ h ∧ h < j := ⟨(i + j) / 2, by omega, by omega, by omega⟩
      have EH := hid eh
      obtain ⟨c, hcB⟩ : ∃ c, B[h - m]? = some c := ⟨_, List.getElem?_eq_getElem (by have := HY.out; omega)⟩
      have e1 : (p ++ [x] ++ B ++ s)[h]? = some c := by
        have hp := HP.out
        have hy := HY.out
        rw [List.append_assoc, List.getElem?_append_right (by simp; omega), List.getElem?_append_left (by simp; omega)]
        have e : h - (p ++ [x]).length = h - m := by simp; omega
        rw [e, hcB]
      have e0 : (p ++ [x] ++ B ++ s)[a]? = some x := by
        have e : p ++ [x] ++ B ++ s = p ++ x :: (B ++ s) := by simp
        rw [e, ← HP.out]; exact get_at
      have c0 : ∀ n os, (grow (wr.drewN n) os).cell? ⟨g, h * 2, none⟩ = some (.int .u64 c.1) := fun n os => (HRi.out.grow n os).cell0 e1
      have c1 : ∀ n os, (grow (wr.drewN n) os).cell? ⟨g, h * 2 + 1, none⟩ = some (.int .i64 c.2) := fun n os => (HRi.out.grow n os).cell1 e1
      have c2 : ∀ n os, (grow (wr.drewN n) os).cell? ⟨g, a * 2, none⟩ = some (.int .u64 x.1) := fun n os => (HRi.out.grow n os).cell0 e0
      have c3 : ∀ n os, (grow (wr.drewN n) os).cell? ⟨g, a * 2 + 1, none⟩ = some (.int .i64 x.2) := fun n os => (HRi.out.grow n os).cell1 e0
      have hz1 : (h : Int) < (len : Int) := by omega
      have hz2 : (a : Int) < (len : Int) := by omega
      have hz3 : (0 : Int) ≤ (h : Int) := by omega
      have hz4 : (0 : Int) ≤ (a : Int) := by omega
      have mixed : Try.prog.follows .mixedOrders = true := by kernel_rfl
      have CB := hid hcB
      clear eh e0 e1 hcB
      go_wp2_with fail
      rw [EH.out]
      by_cases hless : c.1 < x.1
      · have hcmp : cmpI c.1 x.1 < 0 := cmpI_neg.2 hless
        go_quiet_grown (first | (go_at_call 94; refine Calls.grown_of (cmp94 c x _)))
        go_wp2_with fail
        have RQ := HRi.out.grow nq osq
        have GQ := only_below HGi.out (grown_below nq osq)
        go_roundw
        case measure => simp [intOf] <;> omega
        case rel => exact ⟨h + 1, j, by go_num, by first | rfl | go_num, by omega, by omega, by omega, findA_low HB.out HFi.out CB.out (by omega) hless, RQ, GQ⟩
      · have hcmp : ¬ cmpI c.1 x.1 < 0 := fun hh => hless (cmpI_neg.1 hh)
        go_quiet_grown (first | (go_at_call 94; refine Calls.grown_of (cmp94 c x _)))
        go_wp2_with fail
        have RQ := HRi.out.grow nq osq
        have GQ := only_below HGi.out (grown_below nq osq)
        go_roundw
        case measure => simp [intOf] <;> omega
        case rel => exact ⟨i, h, by first | rfl | go_num, by first | rfl | go_num, by omega, by omega, by omega, findA_high HB.out HFi.out CB.out (by omega) hless, RQ, GQ⟩
    · have hltz : ¬ (i : Int) < (j : Int) := by omega
      obtain rfl : i = j := by omega
      have hy := HY.out
      obtain ⟨B1, B2, hBB, hl1⟩ : ∃ B1 B2, B = B1 ++ B2 ∧ B1.length = i - m := ⟨B.take (i - m), B.drop (i - m), by simp, by rw [List.length_take]; omega⟩
      have HS1 : Hid (∀ c ∈ B1, c.1 < x.1) := by
        intro c hc
        obtain ⟨k, hk, rfl⟩ := List.getElem_of_mem hc
        have hb1 : B[k]? = some B1[k] := by rw [hBB, List.getElem?_append_left hk]; exact List.getElem?_eq_getElem hk
        exact (HFi.out k _ hb1).1 (by omega)
      have HS2 : Hid (∀ c ∈ B2, x.1 ≤ c.1) := by
        intro c hc
        obtain ⟨k, hk, rfl⟩ := List.getElem_of_mem hc
        have hb1 : B[B1.length + k]? = some B2[k] := by rw [hBB, List.getElem?_append_right (by omega)]; simp [hk]
        exact (HFi.out _ _ hb1).2 (by omega)
      have HBB := hid hBB
      have H1 := hid hl1
      have HS0 : Hid (Row wr g (p ++ B1.take 0 ++ x :: (B1.drop 0 ++ B2 ++ s)) tl) := by
        show Row _ _ _ _
        have := HRi.out
        rw [hBB] at this
        simpa using this
      clear hy hBB hl1 HFi HRi
      go_wp2_with fail
      go_loopw [13] (fun vk wr2 => ∃ t : Nat, vk = .int .i64 ((a + t : Nat) : Int) ∧ a + t + 1 ≤ i ∧ Hid (Row wr2 g (p ++ B1.take t ++ x :: (B1.drop t ++ B2 ++ s)) tl) ∧ Hid (w.grownBy wr2 (some g))) (fun vk _ => i - (intOf vk).toNat)
      case atStart => exact ⟨0, by first | rfl | go_num, by omega, HS0, HGi⟩
      case round =>
        obtain ⟨t, rfl, hti, HRt, HGt⟩ := hrel
        by_cases hlt2 : a + t + 1 < i
        · have hz0 : ((a + t : Nat) : Int) < (i : Int) - 1 := by omega
          obtain ⟨y, hy⟩ : ∃ y, B1[t]? = some y := ⟨_, List.getElem?_eq_getElem (by have := H1.out; omega)⟩
          have hd : B1.drop t = y :: B1.drop (t + 1) := by
            obtain ⟨hl, rfl⟩ := List.getElem?_eq_some_iff.1 hy
            exact List.drop_eq_getElem_cons hl
          have ht : B1.take (t + 1) = B1.take t ++ [y] := by rw [List.take_add_one, hy]; rfl
          have hpl : (p ++ B1.take t).length = a + t := by
            have := HP.out; have := H1.out
            rw [List.length_append, List.length_take]; omega
          have hR := HRt.out
          rw [hd] at hR
          have e0 : (p ++ B1.take t ++ x :: (y :: B1.drop (t + 1) ++ B2 ++ s))[a + t]? = some x := by rw [← hpl]; exact get_at
          have e1 : (p ++ B1.take t ++ x :: (y :: B1.drop (t + 1) ++ B2 ++ s))[a + t + 1]? = some y := by rw [← hpl]; exact get_at1
          obtain ⟨z, ⟨d0, d1, d2, d3⟩, ⟨f0, f1⟩, ⟨d4, d5, f2, f3⟩, RZ, GZ⟩ := hR.swapFacts HGt.out e0 e1
          have RZ2 : Hid (Row (((((wr.setCell ⟨g, (a + t) * 2, none⟩ (.int .u64 y.1)).setCell ⟨g, (a + t) * 2 + 1, none⟩ (.int .i64 y.2)).setCell ⟨g, (a + t + 1) * 2, none⟩ (.int .u64 x.1)).setCell ⟨g, (a + t + 1) * 2 + 1, none⟩ (.int .i64 x.2))) g (p ++ B1.take (t + 1) ++ x :: (B1.drop (t + 1) ++ B2 ++ s)) tl) := by
            show Row _ _ _ _
            have := RZ.out
            have e := swap_at' (A := p ++ B1.take t) (B := B1.drop (t + 1) ++ B2 ++ s) (x := y) (y := x)
            rw [hpl] at e
            simp only [List.cons_append] at this e
            rw [e] at this
            rw [ht]
            simpa using this
          have hz1 : ((a + t : Nat) : Int) < (len : Int) := by omega
          have hz2 : ((a + t : Nat) : Int) + 1 < (len : Int) := by omega
          clear hy hd ht hpl hR e0 e1 RZ
          go_wp2_with fail
          go_region
          all_goals
            go_wp2_with fail
            go_roundw
            case measure => simp [intOf] <;> omega
            case rel => exact ⟨t + 1, by go_num, by omega, RZ2.out.drew, only_drew GZ.out⟩
        · have hz0 : ¬ ((a + t : Nat) : Int) < (i : Int) - 1 := by omega
          go_wp2_with fail
          refine bodyPost_ret (results_none rfl _ _ _) rfl ?_
          have hb := HB.out
          have hbb := HBB.out
          have hl := H1.out
          have ht : t = B1.length := by omega
          have hR := HRt.out
          subst ht
          rw [List.take_length, List.drop_length] at hR
          refine ⟨rfl, B1 ++ x :: B2, by simpa using hR, HGt.out, ?_, ?_⟩
          · rw [hbb] at hb
            have e : B1 ++ x :: B2 = B1 ++ ([x] ++ B2) := rfl
            rw [e]
            refine SortedC.append hb.left (SortedC.append (sortedC_one x) hb.right ?_) ?_
            · intro u hu v hv; simp at hu; subst hu; exact HS2.out v hv
            · intro u hu v hv
              have := HS1.out u hu
              rcases List.mem_append.1 hv with hv | hv
              · simp at hv; subst hv; omega
              · have := HS2.out v hv; omega
          · rw [hbb]
            have e1 : B1 ++ x :: B2 = (B1 ++ [x]) ++ B2 := by simp
            have e2 : x :: (B1 ++ B2) = ([x] ++ B1) ++ B2 := rfl
            rw [e1, e2]
            exact Stably.append (Stably.symm (stably_swap (by intro u hu v hv; simp at hu; subst hu; exact HS1.out v hv))) (Stably.refl _)
end Go.Proofs.Ytndohmimcbmhdaa
