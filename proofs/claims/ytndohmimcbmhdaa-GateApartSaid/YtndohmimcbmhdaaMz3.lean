/- Plain lists of categories: sorted by name, and which order those of one name stand in. -/
import Derived.Test.YtndohmimcbmhdaaMz1
import Derived.BigQuiet
namespace Go.Proofs.Ytndohmimcbmhdaa

/-- Rising by name (equals may stand side by side). -/
def SortedC (l : List (Int × Int)) : Prop := l.Pairwise (fun x y => x.1 ≤ y.1)
/-- Those of one name, in their order. -/
def named (l : List (Int × Int)) (i : Int) : List (Int × Int) := l.filter (fun c => c.1 == i)
/-- The same ones, those of one name in the same order. -/
def Stably (l r : List (Int × Int)) : Prop := ∀ i, named l i = named r i

theorem Stably.refl (l : List (Int × Int)) : Stably l l := fun _ => rfl
theorem Stably.symm {l r : List (Int × Int)} (h : Stably l r) : Stably r l := fun i => (h i).symm
theorem Stably.trans {a b c : List (Int × Int)} (h : Stably a b) (k : Stably b c) : Stably a c := fun i => (h i).trans (k i)
theorem named_append (l r : List (Int × Int)) (i : Int) : named (l ++ r) i = named l i ++ named r i := by simp [named]
theorem Stably.append {a b c d : List (Int × Int)} (h : Stably a b) (k : Stably c d) : Stably (a ++ c) (b ++ d) := fun i => by rw [named_append, named_append, h i, k i]
theorem mem_named {l : List (Int × Int)} {c : Int × Int} : c ∈ l ↔ c ∈ named l c.1 := by simp [named]
theorem Stably.mem {l r : List (Int × Int)} (h : Stably l r) {c : Int × Int} (hc : c ∈ l) : c ∈ r := by
  rw [mem_named] at hc ⊢
  rw [← h c.1]; exact hc

theorem named_nil_of_ne {l : List (Int × Int)} {i : Int} (h : ∀ c ∈ l, c.1 ≠ i) : named l i = [] := by
  simp only [named, List.filter_eq_nil_iff, beq_iff_eq]; exact h

/-- What stands behind is strictly greater than what is laid ahead of it: their order among those of one name is as it was. -/
theorem stably_swap {X Y : List (Int × Int)} (h : ∀ x ∈ X, ∀ y ∈ Y, y.1 < x.1) : Stably (X ++ Y) (Y ++ X) := fun i => by
  rw [named_append, named_append]
  by_cases hx : ∃ x ∈ X, x.1 = i
  · obtain ⟨x, hx, rfl⟩ := hx
    rw [named_nil_of_ne (l := Y) (fun y hy => by have := h x hx y hy; omega)]
    simp
  · rw [named_nil_of_ne (l := X) (fun c hc e => hx ⟨c, hc, e⟩)]
    simp

theorem SortedC.append {a b : List (Int × Int)} (ha : SortedC a) (hb : SortedC b) (h : ∀ x ∈ a, ∀ y ∈ b, x.1 ≤ y.1) : SortedC (a ++ b) :=
  List.pairwise_append.2 ⟨ha, hb, h⟩
theorem SortedC.left {a b : List (Int × Int)} (h : SortedC (a ++ b)) : SortedC a := (List.pairwise_append.1 h).1
theorem SortedC.right {a b : List (Int × Int)} (h : SortedC (a ++ b)) : SortedC b := (List.pairwise_append.1 h).2.1
theorem SortedC.cross {a b : List (Int × Int)} (h : SortedC (a ++ b)) : ∀ x ∈ a, ∀ y ∈ b, x.1 ≤ y.1 := (List.pairwise_append.1 h).2.2
theorem sortedC_nil : SortedC [] := List.Pairwise.nil
theorem sortedC_one (x : Int × Int) : SortedC [x] := List.pairwise_singleton _ _

theorem swap_at {A B : List (Int × Int)} {x y : Int × Int} : ((A ++ y :: x :: B).set (A.length + 1) y).set A.length x = A ++ x :: y :: B := by
  rw [List.set_append_right _ _ (by omega), List.set_append_right _ _ (by omega)]
  simp
theorem swap_at' {A B : List (Int × Int)} {x y : Int × Int} : ((A ++ y :: x :: B).set A.length x).set (A.length + 1) y = A ++ x :: y :: B := by
  rw [List.set_append_right _ _ (by omega), List.set_append_right _ _ (by omega)]
  simp
theorem get_at {A B : List (Int × Int)} {x : Int × Int} : (A ++ x :: B)[A.length]? = some x := by simp
theorem get_at1 {A B : List (Int × Int)} {x y : Int × Int} : (A ++ y :: x :: B)[A.length + 1]? = some x := by
  rw [List.getElem?_append_right (by omega)]; simp

/-- One more is laid where it belongs. -/
theorem insert_sorted {Y1 Y2 : List (Int × Int)} {x : Int × Int} (hs : SortedC (Y1 ++ Y2)) (h2 : ∀ y ∈ Y2, x.1 < y.1) (h1 : ∀ y ∈ Y1, y.1 ≤ x.1) : SortedC (Y1 ++ x :: Y2) := by
  have e : Y1 ++ x :: Y2 = Y1 ++ ([x] ++ Y2) := rfl
  rw [e]
  refine SortedC.append hs.left (SortedC.append (sortedC_one x) hs.right ?_) ?_
  · intro a ha b hb; simp at ha; subst ha; have := h2 b hb; omega
  · intro a ha b hb
    rcases List.mem_append.1 hb with hb | hb
    · simp at hb; subst hb; exact h1 a ha
    · exact hs.cross a ha b hb
theorem insert_stably {Y1 Y2 : List (Int × Int)} {x : Int × Int} (h2 : ∀ y ∈ Y2, x.1 < y.1) : Stably (Y1 ++ x :: Y2) (Y1 ++ Y2 ++ [x]) := by
  have e : Y1 ++ x :: Y2 = Y1 ++ ([x] ++ Y2) := rfl
  rw [e, List.append_assoc]
  refine Stably.append (Stably.refl _) (Stably.symm (stably_swap ?_))
  intro a ha b hb; simp at hb; subst hb; exact h2 a ha

theorem stably_perm {l r : List (Int × Int)} (h : Stably l r) : l.Perm r := by
  rw [List.perm_iff_count]
  intro a
  have e : ∀ l : List (Int × Int), l.count a = (named l a.1).count a := by
    intro l
    induction l with
    | nil => rfl
    | cons c l ih =>
      unfold named at *
      by_cases hc : c.1 = a.1
      · rw [List.filter_cons_of_pos (by simpa using hc), List.count_cons, List.count_cons, ih]
      · rw [List.filter_cons_of_neg (by simpa using hc), List.count_cons, ih]
        have : ¬ (c == a) = true := by intro h; have := eq_of_beq h; subst this; exact hc rfl
        simp [this]
  rw [e l, e r, h a.1]

end Go.Proofs.Ytndohmimcbmhdaa

/- The library's rotation of categories: two neighbours change places. -/
set_option linter.unusedVariables false
set_option linter.unusedSimpArgs false
namespace Go.Proofs.Ytndohmimcbmhdaa
open Go.RowKit Go.Sort


/-- A range is exchanged with another one. -/
def swapRangeL (a b : Nat) : Nat → List (Int × Int) → List (Int × Int)
  | 0, cs => cs
  | n + 1, cs => swapL (swapRangeL a b n cs) (a + n) (b + n)
@[simp] theorem swapRangeL_length (a b n : Nat) (cs : List (Int × Int)) : (swapRangeL a b n cs).length = cs.length := by
  induction n with
  | zero => rfl
  | succ n ih => simp [swapRangeL, ih]

set_option maxHeartbeats 1000000 in
theorem swapRange181 (w : World) (g len cap a b n : Nat) (cs : List (Int × Int)) (tl : List Value) (f : Value) (hr : Row w g cs tl) (hlen : cs.length = len) (hc : len ≤ cap) (ha : a + n ≤ len) (hb : b + n ≤ len) (hm : len ≤ 4611686018427387904) :
    Calls Try.prog 181 #[.slice (some ⟨g, 0, none⟩) len cap, .int .i64 a, .int .i64 b, .int .i64 n, f] w fun e w' =>
      e = .returned (.tuple #[]) ∧ Row w' g (swapRangeL a b n cs) tl ∧ w.grownBy w' (some g) := by
  have HL := hid hlen
  clear hlen
  go_enter Try.func181, Try.ntmps181
  go_wp2_with fail
  go_loopw [10] (fun i wr => ∃ k : Nat, k ≤ n ∧ i = .int .i64 k ∧ Row wr g (swapRangeL a b k cs) tl ∧ w.grownBy wr (some g)) (fun i _ => n - (intOf i).toNat)
  case atStart => exact ⟨0, by omega, rfl, hr, only_refl _ _⟩
  case round =>
    obtain ⟨k, hk, rfl, hrow, hgr⟩ := hrel
    by_cases hlt : k < n
    · have hkz : (k : Int) < (n : Int) := by omega
      have hl : (swapRangeL a b k cs).length = len := by rw [swapRangeL_length]; exact HL.out
      have e1 := getD_some (swapRangeL a b k cs) (i := a + k) (by omega)
      have e2 := getD_some (swapRangeL a b k cs) (i := b + k) (by omega)
      generalize hx : (swapRangeL a b k cs).getD (a + k) (0, 0) = x at e1
      generalize hy : (swapRangeL a b k cs).getD (b + k) (0, 0) = y at e2
      have c1 := hrow.cell0 e1
      have c2 := hrow.cell1 e1
      have c3 := hrow.cell0 e2
      have c4 := hrow.cell1 e2
      have f1 := hrow.free ((a + k) * 2)
      have f2 := hrow.free ((a + k) * 2 + 1)
      have f3 := hrow.free ((b + k) * 2)
      have f4 := hrow.free ((b + k) * 2 + 1)
      have hrow2 := hrow.put (i := a + k) (by omega) y
      obtain ⟨z, hz⟩ : ∃ z, ((swapRangeL a b k cs).set (a + k) y)[b + k]? = some z := ⟨_, getD_some _ (by rw [List.length_set]; omega)⟩
      have c5 := hrow2.cell0 hz
      have c6 := hrow2.cell1 hz
      have f5 := hrow2.free ((b + k) * 2)
      have f6 := hrow2.free ((b + k) * 2 + 1)
      have hrow3 := hrow2.put (i := b + k) (by rw [List.length_set]; omega) x
      have e3 : ((swapRangeL a b k cs).set (a + k) y).set (b + k) x = swapRangeL a b (k + 1) cs := by rw [← hx, ← hy]; rfl
      rw [e3] at hrow3
      have hgr3 := only_setCell (only_setCell (only_setCell (only_setCell hgr (p := ⟨g, (a + k) * 2, none⟩) (.inl rfl) (.int .u64 y.1)) (p := ⟨g, (a + k) * 2 + 1, none⟩) (.inl rfl) (.int .i64 y.2)) (p := ⟨g, (b + k) * 2, none⟩) (.inl rfl) (.int .u64 x.1)) (p := ⟨g, (b + k) * 2 + 1, none⟩) (.inl rfl) (.int .i64 x.2)
      have HR3 := hid hrow3
      have HG3 := hid hgr3
      clear hl e1 e2 hx hy hrow2 hz hrow3 e3 hgr3
      clear hrow hgr
      go_wp2_with fail
      go_region
      all_goals
        go_wp2_with fail
        go_roundw
        case rel => exact ⟨k + 1, by omega, by go_num, HR3.out.drew, only_drew HG3.out⟩
        case measure => simp [intOf]; omega
    · have hkz : ¬ (k : Int) < (n : Int) := by omega
      obtain rfl : k = n := by omega
      go_wp2_with fail
      go_end0
      exact ⟨rfl, hrow, hgr⟩

theorem swapL_get (cs : List (Int × Int)) (i j k : Nat) (hi : i < cs.length) (hj : j < cs.length) : (swapL cs i j)[k]? = if k = j then cs[i]? else if k = i then cs[j]? else cs[k]? := by
  unfold swapL
  have g1 := getD_some cs hi
  have g2 := getD_some cs hj
  simp only [List.getElem?_set, List.length_set]
  repeat' split
  all_goals first
    | (exfalso; omega)
    | rfl
    | (rw [← g1]; done)
    | (rw [← g2]; done)
    | (subst_vars; first | rfl | exact g1.symm | exact g2.symm)

theorem swapRangeL_get (a b : Nat) (cs : List (Int × Int)) : ∀ (n : Nat), a + n ≤ b → b + n ≤ cs.length → ∀ k,
    (swapRangeL a b n cs)[k]? = if a ≤ k ∧ k < a + n then cs[b + (k - a)]? else if b ≤ k ∧ k < b + n then cs[a + (k - b)]? else cs[k]? := by
  intro n
  induction n with
  | zero => intro _ _ k; rw [if_neg (by omega), if_neg (by omega)]; rfl
  | succ n ih =>
    intro h1 h2 k
    have ih' := ih (by omega) (by omega)
    show (swapL (swapRangeL a b n cs) (a + n) (b + n))[k]? = _
    rw [swapL_get _ _ _ _ (by simp; omega) (by simp; omega), ih', ih', ih']
    repeat' split
    all_goals first
      | (exfalso; omega)
      | rfl
      | (congr 1; omega)

/-- Two runs of one length change places. -/
theorem swapRange_parts (P U V W S : List (Int × Int)) (h : U.length = W.length) :
    swapRangeL P.length (P.length + U.length + V.length) U.length (P ++ U ++ V ++ W ++ S) = P ++ W ++ V ++ U ++ S := by
  apply List.ext_getElem?
  intro k
  rw [swapRangeL_get _ _ _ _ (by omega) (by simp; omega)]
  by_cases c1 : k < P.length
  · rw [if_neg (by omega), if_neg (by omega)]
    simp only [List.append_assoc]
    rw [List.getElem?_append_left c1, List.getElem?_append_left c1]
  · obtain ⟨k, rfl⟩ : ∃ k', k = P.length + k' := ⟨k - P.length, by omega⟩
    simp only [List.append_assoc]
    rw [List.getElem?_append_right (l₁ := P) (l₂ := W ++ (V ++ (U ++ S))) (by omega)]
    by_cases c2 : k < U.length
    · rw [if_pos (by omega), List.getElem?_append_right (by omega), List.getElem?_append_right (by omega), List.getElem?_append_right (by omega), List.getElem?_append_left (by omega), List.getElem?_append_left (by omega)]
      congr 1; omega
    · rw [if_neg (by omega)]
      by_cases c3 : k < U.length + V.length
      · rw [if_neg (by omega), List.getElem?_append_right (by omega), List.getElem?_append_right (by omega), List.getElem?_append_left (by omega), List.getElem?_append_right (by omega), List.getElem?_append_left (by omega)]
        congr 1; omega
      · by_cases c4 : k < U.length + V.length + W.length
        · rw [if_pos (by omega), List.getElem?_append_right (by omega), List.getElem?_append_left (by omega), List.getElem?_append_right (by omega), List.getElem?_append_right (by omega), List.getElem?_append_left (by omega)]
          congr 1; omega
        · rw [if_neg (by omega), List.getElem?_append_right (by omega), List.getElem?_append_right (by omega), List.getElem?_append_right (by omega), List.getElem?_append_right (by omega), List.getElem?_append_right (by omega), List.getElem?_append_right (by omega), List.getElem?_append_right (by omega)]
          congr 1; omega

/-- Where the rotation stands: what is left to change places, i and j of them; the whole as it is to be. -/
def RotAt (w : World) (g m : Nat) (T : List (Int × Int)) (tl : List Value) (i j : Nat) (wr : World) : Prop :=
  ∃ P X Y S, Row wr g (P ++ X ++ Y ++ S) tl ∧ w.grownBy wr (some g) ∧ P ++ Y ++ X ++ S = T ∧ X.length = i ∧ Y.length = j ∧ P.length + i = m

set_option maxHeartbeats 2000000 in
theorem rotate180 (w : World) (g len cap a m b : Nat) (P X Y S : List (Int × Int)) (tl : List Value) (hr : Row w g (P ++ X ++ Y ++ S) tl) (hlen : (P ++ X ++ Y ++ S).length = len) (hP : P.length = a) (hX : a + X.length = m) (hY : m + Y.length = b) (hX0 : a < m) (hY0 : m < b) (hc : len ≤ cap) (hm : len ≤ 4611686018427387904) (f : Value) :
    Calls Try.prog 180 #[.slice (some ⟨g, 0, none⟩) len cap, .int .i64 a, .int .i64 m, .int .i64 b, f] w fun e w' =>
      e = .returned (.tuple #[]) ∧ Row w' g (P ++ Y ++ X ++ S) tl ∧ w.grownBy w' (some g) := by
  have hbl : b ≤ len := by simp at hlen; omega
  have HS : Hid (RotAt w g m (P ++ Y ++ X ++ S) tl (m - a) (b - m) w) := ⟨P, X, Y, S, hr, only_refl _ _, rfl, by omega, by omega, by omega⟩
  have HT : Hid ((P ++ Y ++ X ++ S).length = len) := by show _ = _; simp at hlen ⊢; omega
  generalize P ++ Y ++ X ++ S = T at *
  clear hr hlen hP hX hY
  go_enter Try.func180, Try.ntmps180
  go_wp2_with fail
  go_loopw [10, 11] (fun vi vj wr => ∃ i j : Nat, vi = .int .i64 i ∧ vj = .int .i64 j ∧ 0 < i ∧ 0 < j ∧ i ≤ m ∧ m + j ≤ len ∧ Hid (RotAt w g m T tl i j wr)) (fun vi vj _ => (intOf vi).toNat + (intOf vj).toNat)
  case atStart => exact ⟨m - a, b - m, by go_num, by go_num, by omega, by omega, by omega, by omega, HS⟩
  case round =>
    obtain ⟨i, j, rfl, rfl, hi0, hj0, him, hjm, HO⟩ := hrel
    by_cases hne : i = j
    · subst hne
      have ht : ((i : Int) != (i : Int)) = false := by simp
      obtain ⟨P', X', Y', S', q1, q2, q3, q4, q5, q6⟩ := HO.out
      have hl : (P' ++ X' ++ Y' ++ S').length = len := by have := HT.out; rw [← q3] at this; simp at this ⊢; omega
      have key := swapRange_parts P' X' [] Y' S' (by omega)
      have e1 : m - i = P'.length := by omega
      have e2 : m = P'.length + X'.length + ([] : List (Int × Int)).length := by simp; omega
      have HC := hid (swapRange181 wr g len cap (m - i) m i (P' ++ X' ++ Y' ++ S') tl f q1 hl hc (by omega) (by omega) hm)
      have HF : Hid (swapRangeL (m - i) m i (P' ++ X' ++ Y' ++ S') = T) := by
        show _ = _
        rw [← q3, e1]
        simp only [List.append_nil, List.length_nil, Nat.add_zero] at key e2
        rw [← e2, q4] at key
        exact key
      have Q2 := hid q2
      have ec : ((m : Int) - (i : Int)) = ((m - i : Nat) : Int) := by omega
      have EC := hid ec
      clear q1 q2 q3 q4 q5 q6 hl key e1 e2 ec
      go_wp2_with fail
      rw [EC.out]
      refine HC.out.mono ?_
      rintro e w' ⟨rfl, hR, hG⟩
      have HR2 := hid hR
      have HG2 := hid hG
      clear hR hG
      go_wp2_with fail
      go_end0
      exact ⟨rfl, by have := HR2.out; rw [HF.out] at this; exact this, only_trans Q2.out HG2.out⟩
    · have ht : ((i : Int) != (j : Int)) = true := by simp; omega
      by_cases hgt : j < i
      · obtain ⟨P', X', Y', S', q1, q2, q3, q4, q5, q6⟩ := HO.out
        have hl : (P' ++ X' ++ Y' ++ S').length = len := by have := HT.out; rw [← q3] at this; simp at this ⊢; omega
        have HC := hid (swapRange181 wr g len cap (m - i) m j (P' ++ X' ++ Y' ++ S') tl f q1 hl hc (by omega) (by omega) hm)
        have HF : Hid (swapRangeL (m - i) m j (P' ++ X' ++ Y' ++ S') = P' ++ Y' ++ X'.drop j ++ X'.take j ++ S') := by
          show _ = _
          have key := swapRange_parts P' (X'.take j) (X'.drop j) Y' S' (by rw [List.length_take]; omega)
          have e0 : P' ++ X'.take j ++ X'.drop j ++ Y' ++ S' = P' ++ X' ++ Y' ++ S' := by simp only [List.append_assoc, ← List.append_assoc (X'.take j), List.take_append_drop]
          rw [e0] at key
          have e1 : (X'.take j).length = j := by rw [List.length_take]; omega
          have e2 : P'.length = m - i := by omega
          have e3 : P'.length + (X'.take j).length + (X'.drop j).length = m := by rw [List.length_take, List.length_drop]; omega
          rw [e3, e1, e2] at key
          exact key
        have Q2 := hid q2
        have Q3 := hid q3
        have Q4 := hid q4
        have Q5 := hid q5
        have Q6 := hid q6
        have EC : Hid (((m : Int) - (i : Int)) = ((m - i : Nat) : Int)) := by show _ = _; omega
        have hgz : (j : Int) < (i : Int) := by omega
        clear q1 q2 q3 q4 q5 q6 hl
        go_wp2_with fail
        rw [EC.out]
        refine HC.out.mono ?_
        rintro e w' ⟨rfl, hR, hG⟩
        have HR2 := hid hR
        have HG2 := hid hG
        clear hR hG
        go_wp2_with fail
        go_roundw
        case measure => simp [intOf] <;> omega
        case rel =>
          refine ⟨i - j, j, by go_num, by first | rfl | go_num, by omega, hj0, by omega, by omega, (show Hid _ from ⟨P' ++ Y', X'.drop j, X'.take j, S', ?_, only_trans Q2.out HG2.out, ?_, ?_, ?_, ?_⟩)⟩
          · have := HR2.out; rw [HF.out] at this; exact this
          · rw [← Q3.out]; simp only [List.append_assoc, ← List.append_assoc (X'.take j), List.take_append_drop]
          · rw [List.length_drop, Q4.out]
          · rw [List.length_take, Q4.out]; omega
          · have := Q5.out; have := Q6.out; simp; omega
      · have hlt : i < j := by omega
        obtain ⟨P', X', Y', S', q1, q2, q3, q4, q5, q6⟩ := HO.out
        have hl : (P' ++ X' ++ Y' ++ S').length = len := by have := HT.out; rw [← q3] at this; simp at this ⊢; omega
        have HC := hid (swapRange181 wr g len cap (m - i) (m + j - i) i (P' ++ X' ++ Y' ++ S') tl f q1 hl hc (by omega) (by omega) hm)
        have HF : Hid (swapRangeL (m - i) (m + j - i) i (P' ++ X' ++ Y' ++ S') = P' ++ Y'.drop (j - i) ++ Y'.take (j - i) ++ X' ++ S') := by
          show _ = _
          have key := swapRange_parts P' X' (Y'.take (j - i)) (Y'.drop (j - i)) S' (by rw [List.length_drop]; omega)
          have e0 : P' ++ X' ++ Y'.take (j - i) ++ Y'.drop (j - i) ++ S' = P' ++ X' ++ Y' ++ S' := by simp only [List.append_assoc, ← List.append_assoc (Y'.take (j - i)), List.take_append_drop]
          rw [e0] at key
          have e2 : P'.length = m - i := by omega
          have e3 : P'.length + X'.length + (Y'.take (j - i)).length = m + j - i := by rw [List.length_take]; omega
          rw [e3, q4, e2] at key
          exact key
        have Q2 := hid q2
        have Q3 := hid q3
        have Q4 := hid q4
        have Q5 := hid q5
        have Q6 := hid q6
        have EC : Hid (((m : Int) - (i : Int)) = ((m - i : Nat) : Int)) := by show _ = _; omega
        have EC2 : Hid (((m : Int) + (j : Int) - (i : Int)) = ((m + j - i : Nat) : Int)) := by show _ = _; omega
        have hgz : ¬ (j : Int) < (i : Int) := by omega
        clear q1 q2 q3 q4 q5 q6 hl
        go_wp2_with fail
        rw [EC.out, EC2.out]
        refine HC.out.mono ?_
        rintro e w' ⟨rfl, hR, hG⟩
        have HR2 := hid hR
        have HG2 := hid hG
        clear hR hG
        go_wp2_with fail
        go_roundw
        case measure => simp [intOf] <;> omega
        case rel =>
          refine ⟨i, j - i, by first | rfl | go_num, by go_num, hi0, by omega, by omega, by omega, (show Hid _ from ⟨P', Y'.drop (j - i), Y'.take (j - i), X' ++ S', ?_, only_trans Q2.out HG2.out, ?_, ?_, ?_, ?_⟩)⟩
          · have := HR2.out; rw [HF.out] at this; simpa using this
          · rw [← Q3.out]; simp only [List.append_assoc, ← List.append_assoc (Y'.take (j - i)), List.take_append_drop]
          · rw [List.length_drop, Q5.out]; omega
          · rw [List.length_take, Q5.out]; omega
          · have := Q5.out; have := Q6.out; omega

end Go.Proofs.Ytndohmimcbmhdaa

set_option linter.unusedVariables false
set_option linter.unusedSimpArgs false
namespace Go.Proofs.Ytndohmimcbmhdaa
open Go.RowKit Go.Sort

/-- The search for the place of x among B (which begins at m): below i all are less, from j on none is. -/
def FindA (x : Int × Int) (B : List (Int × Int)) (m i j : Nat) : Prop := ∀ k c, B[k]? = some c → (m + k < i → c.1 < x.1) ∧ (j ≤ m + k → x.1 ≤ c.1)

theorem sorted_get {B : List (Int × Int)} (hs : SortedC B) {k l : Nat} {c d : Int × Int} (hc : B[k]? = some c) (hd : B[l]? = some d) (h : k ≤ l) : c.1 ≤ d.1 := by
  rcases Nat.lt_or_eq_of_le h with h | h
  · obtain ⟨lk, rfl⟩ := List.getElem?_eq_some_iff.1 hc
    obtain ⟨ll, rfl⟩ := List.getElem?_eq_some_iff.1 hd
    exact List.pairwise_iff_getElem.1 hs k l lk ll h
  · subst h; rw [hc] at hd; cases hd; omega

theorem findA_low {x : Int × Int} {B : List (Int × Int)} {m i j h : Nat} {c : Int × Int} (hs : SortedC B) (hf : FindA x B m i j) (hc : B[h - m]? = some c) (hm : m ≤ h) (hl : c.1 < x.1) : FindA x B m (h + 1) j :=
  fun k d hd => ⟨fun hk => by have := sorted_get hs hd hc (by omega); omega, (hf k d hd).2⟩
theorem findA_high {x : Int × Int} {B : List (Int × Int)} {m i j h : Nat} {c : Int × Int} (hs : SortedC B) (hf : FindA x B m i j) (hc : B[h - m]? = some c) (hm : m ≤ h) (hl : ¬ c.1 < x.1) : FindA x B m i h :=
  fun k d hd => ⟨(hf k d hd).1, fun hk => by have := sorted_get hs hc hd (by omega); omega⟩

set_option maxRecDepth 100000 in
set_option maxHeartbeats 2000000 in
theorem symMergeA (w : World) (g len cap a m b : Nat) (p B s : List (Int × Int)) (x : Int × Int) (tl : List Value) (hr : Row w g (p ++ [x] ++ B ++ s) tl) (hlen : (p ++ [x] ++ B ++ s).length = len) (hP : p.length = a) (hX : a + 1 = m) (hY : m + B.length = b) (hB : SortedC B) (hc : len ≤ cap) (hm : len ≤ 2305843009213693951) :
    Calls Try.prog 169 #[.slice (some ⟨g, 0, none⟩) len cap, .int .i64 a, .int .i64 m, .int .i64 b, .func (.func 94) #[] #[]] w fun e w' =>
      e = .returned (.tuple #[]) ∧ ∃ C, Row w' g (p ++ C ++ s) tl ∧ w.grownBy w' (some g) ∧ SortedC C ∧ Stably C (x :: B) := by
  have hbl : b ≤ len := by simp at hlen; omega
  have hone : (((m : Int) - (a : Int)) == 1) = true := by rw [beq_iff_eq]; omega
  have hm1 : m ≤ a + 1 := by omega
  have hm2 : a + 1 ≤ m := by omega
  have HF : Hid (FindA x B m m b) := by
    intro k c hk
    have := (List.getElem?_eq_some_iff.1 hk).1
    exact ⟨fun h => by omega, fun h => by omega⟩
  have HR := hid hr
  have HL := hid hlen
  have HP := hid hP
  have HY := hid hY
  have HB := hid hB
  have hab : m ≤ b := by omega
  clear hr hlen hP hX hY hB
  go_enter Try.func169, Try.ntmps169
  go_wp2_with fail
  go_loopw [10, 11] (fun vi vj wr => ∃ i j : Nat, vi = .int .i64 i ∧ vj = .int .i64 j ∧ m ≤ i ∧ i ≤ j ∧ j ≤ b ∧ Hid (FindA x B m i j) ∧ Hid (Row wr g (p ++ [x] ++ B ++ s) tl) ∧ Hid (w.grownBy wr (some g))) (fun vi vj _ => (intOf vj).toNat - (intOf vi).toNat)
  case atStart => exact ⟨m, b, rfl, rfl, by omega, by omega, by omega, HF, HR, only_refl _ _⟩
  case round =>
    obtain ⟨i, j, rfl, rfl, hi, hij, hjb, HFi, HRi, HGi⟩ := hrel
    by_cases hlt : i < j
    · have hltz : (i : Int) < (j : Int) := by omega
      obtain ⟨h, eh, h1, h2⟩ : ∃ h : Nat, ((i : Int) + (j : Int)) / 2 = (h : Int) ∧ i ≤ h ∧ h < j := ⟨(i + j) / 2, by omega, by omega, by omega⟩
      have EH := hid eh
      obtain ⟨c, hcB⟩ : ∃ c, B[h - m]? = some c := ⟨_, List.getElem?_eq_getElem (by have := HY.out; omega)⟩
      have e1 : (p ++ [x] ++ B ++ s)[h]? = some c := by
        have hp := HP.out
        have hy := HY.out
        rw [List.append_assoc, List.getElem?_append_right (by simp; omega), List.getElem?_append_left (by simp; omega)]
        have e : h - (p ++ [x]).length = h - m := by simp; omega
        rw [e, hcB]
      have e0 : (p ++ [x] ++ B ++ s)[a]? = some x := by
        have e : p ++ [x] ++ B ++ s = p ++ x :: (B ++ s) := by simp
        rw [e, ← HP.out]; exact get_at
      have c0 : ∀ n os, (grow (wr.drewN n) os).cell? ⟨g, h * 2, none⟩ = some (.int .u64 c.1) := fun n os => (HRi.out.grow n os).cell0 e1
      have c1 : ∀ n os, (grow (wr.drewN n) os).cell? ⟨g, h * 2 + 1, none⟩ = some (.int .i64 c.2) := fun n os => (HRi.out.grow n os).cell1 e1
      have c2 : ∀ n os, (grow (wr.drewN n) os).cell? ⟨g, a * 2, none⟩ = some (.int .u64 x.1) := fun n os => (HRi.out.grow n os).cell0 e0
      have c3 : ∀ n os, (grow (wr.drewN n) os).cell? ⟨g, a * 2 + 1, none⟩ = some (.int .i64 x.2) := fun n os => (HRi.out.grow n os).cell1 e0
      have hz1 : (h : Int) < (len : Int) := by omega
      have hz2 : (a : Int) < (len : Int) := by omega
      have hz3 : (0 : Int) ≤ (h : Int) := by omega
      have hz4 : (0 : Int) ≤ (a : Int) := by omega
      have mixed : Try.prog.follows .mixedOrders = true := by kernel_rfl
      have CB := hid hcB
      clear eh e0 e1 hcB
      go_wp2_with fail
      rw [EH.out]
      by_cases hless : c.1 < x.1
      · have hcmp : cmpI c.1 x.1 < 0 := cmpI_neg.2 hless
        go_quiet_grown (first | (go_at_call 94; refine Calls.grown_of (cmp94 c x _)))
        go_wp2_with fail
        have RQ := HRi.out.grow nq osq
        have GQ := only_below HGi.out (grown_below nq osq)
        go_roundw
        case measure => simp [intOf] <;> omega
        case rel => exact ⟨h + 1, j, by go_num, by first | rfl | go_num, by omega, by omega, by omega, findA_low HB.out HFi.out CB.out (by omega) hless, RQ, GQ⟩
      · have hcmp : ¬ cmpI c.1 x.1 < 0 := fun hh => hless (cmpI_neg.1 hh)
        go_quiet_grown (first | (go_at_call 94; refine Calls.grown_of (cmp94 c x _)))
        go_wp2_with fail
        have RQ := HRi.out.grow nq osq
        have GQ := only_below HGi.out (grown_below nq osq)
        go_roundw
        case measure => simp [intOf] <;> omega
        case rel => exact ⟨i, h, by first | rfl | go_num, by first | rfl | go_num, by omega, by omega, by omega, findA_high HB.out HFi.out CB.out (by omega) hless, RQ, GQ⟩
    · have hltz : ¬ (i : Int) < (j : Int) := by omega
      obtain rfl : i = j := by omega
      have hy := HY.out
      obtain ⟨B1, B2, hBB, hl1⟩ : ∃ B1 B2, B = B1 ++ B2 ∧ B1.length = i - m := ⟨B.take (i - m), B.drop (i - m), by simp, by rw [List.length_take]; omega⟩
      have HS1 : Hid (∀ c ∈ B1, c.1 < x.1) := by
        intro c hc
        obtain ⟨k, hk, rfl⟩ := List.getElem_of_mem hc
        have hb1 : B[k]? = some B1[k] := by rw [hBB, List.getElem?_append_left hk]; exact List.getElem?_eq_getElem hk
        exact (HFi.out k _ hb1).1 (by omega)
      have HS2 : Hid (∀ c ∈ B2, x.1 ≤ c.1) := by
        intro c hc
        obtain ⟨k, hk, rfl⟩ := List.getElem_of_mem hc
        have hb1 : B[B1.length + k]? = some B2[k] := by rw [hBB, List.getElem?_append_right (by omega)]; simp [hk]
        exact (HFi.out _ _ hb1).2 (by omega)
      have HBB := hid hBB
      have H1 := hid hl1
      have HS0 : Hid (Row wr g (p ++ B1.take 0 ++ x :: (B1.drop 0 ++ B2 ++ s)) tl) := by
        show Row _ _ _ _
        have := HRi.out
        rw [hBB] at this
        simpa using this
      clear hy hBB hl1 HFi HRi
      go_wp2_with fail
      go_loopw [13] (fun vk wr2 => ∃ t : Nat, vk = .int .i64 ((a + t : Nat) : Int) ∧ a + t + 1 ≤ i ∧ Hid (Row wr2 g (p ++ B1.take t ++ x :: (B1.drop t ++ B2 ++ s)) tl) ∧ Hid (w.grownBy wr2 (some g))) (fun vk _ => i - (intOf vk).toNat)
      case atStart => exact ⟨0, by first | rfl | go_num, by omega, HS0, HGi⟩
      case round =>
        obtain ⟨t, rfl, hti, HRt, HGt⟩ := hrel
        by_cases hlt2 : a + t + 1 < i
        · have hz0 : ((a + t : Nat) : Int) < (i : Int) - 1 := by omega
          obtain ⟨y, hy⟩ : ∃ y, B1[t]? = some y := ⟨_, List.getElem?_eq_getElem (by have := H1.out; omega)⟩
          have hd : B1.drop t = y :: B1.drop (t + 1) := by
            obtain ⟨hl, rfl⟩ := List.getElem?_eq_some_iff.1 hy
            exact List.drop_eq_getElem_cons hl
          have ht : B1.take (t + 1) = B1.take t ++ [y] := by rw [List.take_add_one, hy]; rfl
          have hpl : (p ++ B1.take t).length = a + t := by
            have := HP.out; have := H1.out
            rw [List.length_append, List.length_take]; omega
          have hR := HRt.out
          rw [hd] at hR
          have e0 : (p ++ B1.take t ++ x :: (y :: B1.drop (t + 1) ++ B2 ++ s))[a + t]? = some x := by rw [← hpl]; exact get_at
          have e1 : (p ++ B1.take t ++ x :: (y :: B1.drop (t + 1) ++ B2 ++ s))[a + t + 1]? = some y := by rw [← hpl]; exact get_at1
          obtain ⟨z, ⟨d0, d1, d2, d3⟩, ⟨f0, f1⟩, ⟨d4, d5, f2, f3⟩, RZ, GZ⟩ := hR.swapFacts HGt.out e0 e1
          have RZ2 : Hid (Row (((((wr.setCell ⟨g, (a + t) * 2, none⟩ (.int .u64 y.1)).setCell ⟨g, (a + t) * 2 + 1, none⟩ (.int .i64 y.2)).setCell ⟨g, (a + t + 1) * 2, none⟩ (.int .u64 x.1)).setCell ⟨g, (a + t + 1) * 2 + 1, none⟩ (.int .i64 x.2))) g (p ++ B1.take (t + 1) ++ x :: (B1.drop (t + 1) ++ B2 ++ s)) tl) := by
            show Row _ _ _ _
            have := RZ.out
            have e := swap_at' (A := p ++ B1.take t) (B := B1.drop (t + 1) ++ B2 ++ s) (x := y) (y := x)
            rw [hpl] at e
            simp only [List.cons_append] at this e
            rw [e] at this
            rw [ht]
            simpa using this
          have hz1 : ((a + t : Nat) : Int) < (len : Int) := by omega
          have hz2 : ((a + t : Nat) : Int) + 1 < (len : Int) := by omega
          clear hy hd ht hpl hR e0 e1 RZ
          go_wp2_with fail
          go_region
          all_goals
            go_wp2_with fail
            go_roundw
            case measure => simp [intOf] <;> omega
            case rel => exact ⟨t + 1, by go_num, by omega, RZ2.out.drew, only_drew GZ.out⟩
        · have hz0 : ¬ ((a + t : Nat) : Int) < (i : Int) - 1 := by omega
          go_wp2_with fail
          refine bodyPost_ret (results_none rfl _ _ _) rfl ?_
          have hb := HB.out
          have hbb := HBB.out
          have hl := H1.out
          have ht : t = B1.length := by omega
          have hR := HRt.out
          subst ht
          rw [List.take_length, List.drop_length] at hR
          refine ⟨rfl, B1 ++ x :: B2, by simpa using hR, HGt.out, ?_, ?_⟩
          · rw [hbb] at hb
            have e : B1 ++ x :: B2 = B1 ++ ([x] ++ B2) := rfl
            rw [e]
            refine SortedC.append hb.left (SortedC.append (sortedC_one x) hb.right ?_) ?_
            · intro u hu v hv; simp at hu; subst hu; exact HS2.out v hv
            · intro u hu v hv
              have := HS1.out u hu
              rcases List.mem_append.1 hv with hv | hv
              · simp at hv; subst hv; omega
              · have := HS2.out v hv; omega
          · rw [hbb]
            have e1 : B1 ++ x :: B2 = (B1 ++ [x]) ++ B2 := by simp
            have e2 : x :: (B1 ++ B2) = ([x] ++ B1) ++ B2 := rfl
            rw [e1, e2]
            exact Stably.append (Stably.symm (stably_swap (by intro u hu v hv; simp at hu; subst hu; exact HS1.out v hv))) (Stably.refl _)
end Go.Proofs.Ytndohmimcbmhdaa
