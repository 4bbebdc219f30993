/- The library's rotation of categories: two neighbours change places. -/
import Derived.Test.YtndohmimcbmhdaaCmp
import Derived.Test.YtndohmimcbmhdaaSorts
set_option linter.unusedVariables false
set_option linter.unusedSimpArgs false
namespace Go.Proofs.Ytndohmimcbmhdaa
open Go.RowKit Go.Sort


/-- A range is exchanged with another one. -/
def swapRangeL (a b : Nat) : Nat → List (Int × Int) → List (Int × Int)
  | 0, cs => cs
  | n + 1, cs => swapL (swapRangeL a b n cs) (a + n) (b + n)
@[simp] theorem swapRangeL_length (a b n : Nat) (cs : List (Int × Int)) : (swapRangeL a b n cs).length = cs.length := by
  induction n with
  | zero => rfl
  | succ n ih => simp [swapRangeL, ih]

set_option maxHeartbeats 1000000 in
theorem swapRange181 (w : World) (g len cap a b n : Nat) (cs : List (Int × Int)) (tl : List Value) (f : Value) (hr : Row w g cs tl) (hlen : cs.length = len) (hc : len ≤ cap) (ha : a + n ≤ len) (hb : b + n ≤ len) (hm : len ≤ 4611686018427387904) :
    Calls Try.prog 181 #[.slice (some ⟨g, 0, none⟩) len cap, .int .i64 a, .int .i64 b, .int .i64 n, f] w fun e w' =>
      e = .returned (.tuple #[]) ∧ Row w' g (swapRangeL a b n cs) tl ∧ w.grownBy w' (some g) := by
  have HL := hid hlen
  clear hlen
  go_enter Try.func181, Try.ntmps181
  go_wp2_with fail
  go_loopw [10] (fun i wr => ∃ k : Nat, k ≤ n ∧ i = .int .i64 k ∧ Row wr g (swapRangeL a b k cs) tl ∧ w.grownBy wr (some g)) (fun i _ => n - (intOf i).toNat)
  case atStart => exact ⟨0, by omega, rfl, hr, only_refl _ _⟩
  case round =>
    obtain ⟨k, hk, rfl, hrow, hgr⟩ := hrel
    by_cases hlt : k < n
    · have hkz : (k : Int) < (n : Int) := by omega
      have hl : (swapRangeL a b k cs).length = len := by rw [swapRangeL_length]; exact HL.out
      have e1 := getD_some (swapRangeL a b k cs) (i := a + k) (by omega)
      have e2 := getD_some (swapRangeL a b k cs) (i := b + k) (by omega)
      generalize hx : (swapRangeL a b k cs).getD (a + k) (0, 0) = x at e1
      generalize hy : (swapRangeL a b k cs).getD (b + k) (0, 0) = y at e2
      have c1 := hrow.cell0 e1
      have c2 := hrow.cell1 e1
      have c3 := hrow.cell0 e2
      have c4 := hrow.cell1 e2
      have f1 := hrow.free ((a + k) * 2)
      have f2 := hrow.free ((a + k) * 2 + 1)
      have f3 := hrow.free ((b + k) * 2)
      have f4 := hrow.free ((b + k) * 2 + 1)
      have hrow2 := hrow.put (i := a + k) (by omega) y
      obtain ⟨z, hz⟩ : ∃ z, ((swapRangeL a b k cs).set (a + k) y)[b + k]? = some z := ⟨_, getD_some _ (by rw [List.length_set]; omega)⟩
      have c5 := hrow2.cell0 hz
      have c6 := hrow2.cell1 hz
      have f5 := hrow2.free ((b + k) * 2)
      have f6 := hrow2.free ((b + k) * 2 + 1)
      have hrow3 := hrow2.put (i := b + k) (by rw [List.length_set]; omega) x
      have e3 : ((swapRangeL a b k cs).set (a + k) y).set (b + k) x = swapRangeL a b (k + 1) cs := by rw [← hx, ← hy]; rfl
      rw [e3] at hrow3
      have hgr3 := only_setCell (only_setCell (only_setCell (only_setCell hgr (p := ⟨g, (a + k) * 2, none⟩) (.inl rfl) (.int .u64 y.1)) (p := ⟨g, (a + k) * 2 + 1, none⟩) (.inl rfl) (.int .i64 y.2)) (p := ⟨g, (b + k) * 2, none⟩) (.inl rfl) (.int .u64 x.1)) (p := ⟨g, (b + k) * 2 + 1, none⟩) (.inl rfl) (.int .i64 x.2)
      have HR3 := hid hrow3
      have HG3 := hid hgr3
      clear hl e1 e2 hx hy hrow2 hz hrow3 e3 hgr3
      clear hrow hgr
      go_wp2_with fail
      go_region
      all_goals
        go_wp2_with fail
        go_roundw
        case rel => exact ⟨k + 1, by omega, by go_num, HR3.out.drew, only_drew HG3.out⟩
        case measure => simp [intOf]; omega
    · have hkz : ¬ (k : Int) < (n : Int) := by omega
      obtain rfl : k = n := by omega
      go_wp2_with fail
      go_end0
      exact ⟨rfl, hrow, hgr⟩

theorem swapL_get (cs : List (Int × Int)) (i j k : Nat) (hi : i < cs.length) (hj : j < cs.length) : (swapL cs i j)[k]? = if k = j then cs[i]? else if k = i then cs[j]? else cs[k]? := by
  unfold swapL
  have g1 := getD_some cs hi
  have g2 := getD_some cs hj
  simp only [List.getElem?_set, List.length_set]
  repeat' split
  all_goals first
    | (exfalso; omega)
    | rfl
    | (rw [← g1]; done)
    | (rw [← g2]; done)
    | (subst_vars; first | rfl | exact g1.symm | exact g2.symm)

theorem swapRangeL_get (a b : Nat) (cs : List (Int × Int)) : ∀ (n : Nat), a + n ≤ b → b + n ≤ cs.length → ∀ k,
    (swapRangeL a b n cs)[k]? = if a ≤ k ∧ k < a + n then cs[b + (k - a)]? else if b ≤ k ∧ k < b + n then cs[a + (k - b)]? else cs[k]? := by
  intro n
  induction n with
  | zero => intro _ _ k; rw [if_neg (by omega), if_neg (by omega)]; rfl
  | succ n ih =>
    intro h1 h2 k
    have ih' := ih (by omega) (by omega)
    show (swapL (swapRangeL a b n cs) (a + n) (b + n))[k]? = _
    rw [swapL_get _ _ _ _ (by simp; omega) (by simp; omega), ih', ih', ih']
    repeat' split
    all_goals first
      | (exfalso; omega)
      | rfl
      | (congr 1; omega)

/-- Two runs of one length change places. -/
theorem swapRange_parts (P U V W S : List (Int × Int)) (h : U.length = W.length) :
    swapRangeL P.length (P.length + U.length + V.length) U.length (P ++ U ++ V ++ W ++ S) = P ++ W ++ V ++ U ++ S := by
  apply List.ext_getElem?
  intro k
  rw [swapRangeL_get _ _ _ _ (by omega) (by simp; omega)]
  by_cases c1 : k < P.length
  · rw [if_neg (by omega), if_neg (by omega)]
    simp only [List.append_assoc]
    rw [List.getElem?_append_left c1, List.getElem?_append_left c1]
  · obtain ⟨k, rfl⟩ : ∃ k', k = P.length + k' := ⟨k - P.length, by omega⟩
    simp only [List.append_assoc]
    rw [List.getElem?_append_right (l₁ := P) (l₂ := W ++ (V ++ (U ++ S))) (by omega)]
    by_cases c2 : k < U.length
    · rw [if_pos (by omega), List.getElem?_append_right (by omega), List.getElem?_append_right (by omega), List.getElem?_append_right (by omega), List.getElem?_append_left (by omega), List.getElem?_append_left (by omega)]
      congr 1; omega
    · rw [if_neg (by omega)]
      by_cases c3 : k < U.length + V.length
      · rw [if_neg (by omega), List.getElem?_append_right (by omega), List.getElem?_append_right (by omega), List.getElem?_append_left (by omega), List.getElem?_append_right (by omega), List.getElem?_append_left (by omega)]
        congr 1; omega
      · by_cases c4 : k < U.length + V.length + W.length
        · rw [if_pos (by omega), List.getElem?_append_right (by omega), List.getElem?_append_left (by omega), List.getElem?_append_right (by omega), List.getElem?_append_right (by omega), List.getElem?_append_left (by omega)]
          congr 1; omega
        · rw [if_neg (by omega), List.getElem?_append_right (by omega), List.getElem?_append_right (by omega), List.getElem?_append_right (by omega), List.getElem?_append_right (by omega), List.getElem?_append_right (by omega), List.getElem?_append_right (by omega), List.getElem?_append_right (by omega)]
          congr 1; omega

/-- Where the rotation stands: what is left to change places, i and j of them; the whole as it is to be. -/
def RotAt (w : World) (g m : Nat) (T : List (Int × Int)) (tl : List Value) (i j : Nat) (wr : World) : Prop :=
  ∃ P X Y S, Row wr g (P ++ X ++ Y ++ S) tl ∧ w.grownBy wr (some g) ∧ P ++ Y ++ X ++ S = T ∧ X.length = i ∧ Y.length = j ∧ P.length + i = m

set_option maxHeartbeats 2000000 in
theorem rotate180 (w : World) (g len cap a m b : Nat) (P X Y S : List (Int × Int)) (tl : List Value) (hr : Row w g (P ++ X ++ Y ++ S) tl) (hlen : (P ++ X ++ Y ++ S).length = len) (hP : P.length = a) (hX : a + X.length = m) (hY : m + Y.length = b) (hX0 : a < m) (hY0 : m < b) (hc : len ≤ cap) (hm : len ≤ 4611686018427387904) (f : Value) :
    Calls Try.prog 180 #[.slice (some ⟨g, 0, none⟩) len cap, .int .i64 a, .int .i64 m, .int .i64 b, f] w fun e w' =>
      e = .returned (.tuple #[]) ∧ Row w' g (P ++ Y ++ X ++ S) tl ∧ w.grownBy w' (some g) := by
  have hbl : b ≤ len := by simp at hlen; omega
  have HS : Hid (RotAt w g m (P ++ Y ++ X ++ S) tl (m - a) (b - m) w) := ⟨P, X, Y, S, hr, only_refl _ _, rfl, by omega, by omega, by omega⟩
  have HT : Hid ((P ++ Y ++ X ++ S).length = len) := by show _ = _; simp at hlen ⊢; omega
  generalize P ++ Y ++ X ++ S = T at *
  clear hr hlen hP hX hY
  go_enter Try.func180, Try.ntmps180
  go_wp2_with fail
  go_loopw [10, 11] (fun vi vj wr => ∃ i j : Nat, vi = .int .i64 i ∧ vj = .int .i64 j ∧ 0 < i ∧ 0 < j ∧ i ≤ m ∧ m + j ≤ len ∧ Hid (RotAt w g m T tl i j wr)) (fun vi vj _ => (intOf vi).toNat + (intOf vj).toNat)
  case atStart => exact ⟨m - a, b - m, by go_num, by go_num, by omega, by omega, by omega, by omega, HS⟩
  case round =>
    obtain ⟨i, j, rfl, rfl, hi0, hj0, him, hjm, HO⟩ := hrel
    by_cases hne : i = j
    · subst hne
      have ht : ((i : Int) != (i : Int)) = false := by simp
      obtain ⟨P', X', Y', S', q1, q2, q3, q4, q5, q6⟩ := HO.out
      have hl : (P' ++ X' ++ Y' ++ S').length = len := by have := HT.out; rw [← q3] at this; simp at this ⊢; omega
      have key := swapRange_parts P' X' [] Y' S' (by omega)
      have e1 : m - i = P'.length := by omega
      have e2 : m = P'.length + X'.length + ([] : List (Int × Int)).length := by simp; omega
      have HC := hid (swapRange181 wr g len cap (m - i) m i (P' ++ X' ++ Y' ++ S') tl f q1 hl hc (by omega) (by omega) hm)
      have HF : Hid (swapRangeL (m - i) m i (P' ++ X' ++ Y' ++ S') = T) := by
        show _ = _
        rw [← q3, e1]
        simp only [List.append_nil, List.length_nil, Nat.add_zero] at key e2
        rw [← e2, q4] at key
        exact key
      have Q2 := hid q2
      have ec : ((m : Int) - (i : Int)) = ((m - i : Nat) : Int) := by omega
      have EC := hid ec
      clear q1 q2 q3 q4 q5 q6 hl key e1 e2 ec
      go_wp2_with fail
      rw [EC.out]
      refine HC.out.mono ?_
      rintro e w' ⟨rfl, hR, hG⟩
      have HR2 := hid hR
      have HG2 := hid hG
      clear hR hG
      go_wp2_with fail
      go_end0
      exact ⟨rfl, by have := HR2.out; rw [HF.out] at this; exact this, only_trans Q2.out HG2.out⟩
    · have ht : ((i : Int) != (j : Int)) = true := by simp; omega
      by_cases hgt : j < i
      · obtain ⟨P', X', Y', S', q1, q2, q3, q4, q5, q6⟩ := HO.out
        have hl : (P' ++ X' ++ Y' ++ S').length = len := by have := HT.out; rw [← q3] at this; simp at this ⊢; omega
        have HC := hid (swapRange181 wr g len cap (m - i) m j (P' ++ X' ++ Y' ++ S') tl f q1 hl hc (by omega) (by omega) hm)
        have HF : Hid (swapRangeL (m - i) m j (P' ++ X' ++ Y' ++ S') = P' ++ Y' ++ X'.drop j ++ X'.take j ++ S') := by
          show _ = _
          have key := swapRange_parts P' (X'.take j) (X'.drop j) Y' S' (by rw [List.length_take]; omega)
          have e0 : P' ++ X'.take j ++ X'.drop j ++ Y' ++ S' = P' ++ X' ++ Y' ++ S' := by simp only [List.append_assoc, ← List.append_assoc (X'.take j), List.take_append_drop]
          rw [e0] at key
          have e1 : (X'.take j).length = j := by rw [List.length_take]; omega
          have e2 : P'.length = m - i := by omega
          have e3 : P'.length + (X'.take j).length + (X'.drop j).length = m := by rw [List.length_take, List.length_drop]; omega
          rw [e3, e1, e2] at key
          exact key
        have Q2 := hid q2
        have Q3 := hid q3
        have Q4 := hid q4
        have Q5 := hid q5
        have Q6 := hid q6
        have EC : Hid (((m : Int) - (i : Int)) = ((m - i : Nat) : Int)) := by show _ = _; omega
        have hgz : (j : Int) < (i : Int) := by omega
        clear q1 q2 q3 q4 q5 q6 hl
        go_wp2_with fail
        rw [EC.out]
        refine HC.out.mono ?_
        rintro e w' ⟨rfl, hR, hG⟩
        have HR2 := hid hR
        have HG2 := hid hG
        clear hR hG
        go_wp2_with fail
        go_roundw
        case measure => simp [intOf] <;> omega
        case rel =>
          refine ⟨i - j, j, by go_num, by first | rfl | go_num, by omega, hj0, by omega, by omega, (show Hid _ from ⟨P' ++ Y', X'.drop j, X'.take j, S', ?_, only_trans Q2.out HG2.out, ?_, ?_, ?_, ?_⟩)⟩
          · have := HR2.out; rw [HF.out] at this; exact this
          · rw [← Q3.out]; simp only [List.append_assoc, ← List.append_assoc (X'.take j), List.take_append_drop]
          · rw [List.length_drop, Q4.out]
          · rw [List.length_take, Q4.out]; omega
          · have := Q5.out; have := Q6.out; simp; omega
      · have hlt : i < j := by omega
        obtain ⟨P', X', Y', S', q1, q2, q3, q4, q5, q6⟩ := HO.out
        have hl : (P' ++ X' ++ Y' ++ S').length = len := by have := HT.out; rw [← q3] at this; simp at this ⊢; omega
        have HC := hid (swapRange181 wr g len cap (m - i) (m + j - i) i (P' ++ X' ++ Y' ++ S') tl f q1 hl hc (by omega) (by omega) hm)
        have HF : Hid (swapRangeL (m - i) (m + j - i) i (P' ++ X' ++ Y' ++ S') = P' ++ Y'.drop (j - i) ++ Y'.take (j - i) ++ X' ++ S') := by
          show _ = _
          have key := swapRange_parts P' X' (Y'.take (j - i)) (Y'.drop (j - i)) S' (by rw [List.length_drop]; omega)
          have e0 : P' ++ X' ++ Y'.take (j - i) ++ Y'.drop (j - i) ++ S' = P' ++ X' ++ Y' ++ S' := by simp only [List.append_assoc, ← List.append_assoc (Y'.take (j - i)), List.take_append_drop]
          rw [e0] at key
          have e2 : P'.length = m - i := by omega
          have e3 : P'.length + X'.length + (Y'.take (j - i)).length = m + j - i := by rw [List.length_take]; omega
          rw [e3, q4, e2] at key
          exact key
        have Q2 := hid q2
        have Q3 := hid q3
        have Q4 := hid q4
        have Q5 := hid q5
        have Q6 := hid q6
        have EC : Hid (((m : Int) - (i : Int)) = ((m - i : Nat) : Int)) := by show _ = _; omega
        have EC2 : Hid (((m : Int) + (j : Int) - (i : Int)) = ((m + j - i : Nat) : Int)) := by show _ = _; omega
        have hgz : ¬ (j : Int) < (i : Int) := by omega
        clear q1 q2 q3 q4 q5 q6 hl
        go_wp2_with fail
        rw [EC.out, EC2.out]
        refine HC.out.mono ?_
        rintro e w' ⟨rfl, hR, hG⟩
        have HR2 := hid hR
        have HG2 := hid hG
        clear hR hG
        go_wp2_with fail
        go_roundw
        case measure => simp [intOf] <;> omega
        case rel =>
          refine ⟨i, j - i, by first | rfl | go_num, by go_num, hi0, by omega, by omega, by omega, (show Hid _ from ⟨P', Y'.drop (j - i), Y'.take (j - i), X' ++ S', ?_, only_trans Q2.out HG2.out, ?_, ?_, ?_, ?_⟩)⟩
          · have := HR2.out; rw [HF.out] at this; simpa using this
          · rw [← Q3.out]; simp only [List.append_assoc, ← List.append_assoc (Y'.take (j - i)), List.take_append_drop]
          · rw [List.length_drop, Q5.out]; omega
          · rw [List.length_take, Q5.out]; omega
          · have := Q5.out; have := Q6.out; omega

end Go.Proofs.Ytndohmimcbmhdaa
