import Derived.Test.YtndohmimcbmhdaaX4
set_option linter.unusedVariables false
set_option linter.unusedSimpArgs false
namespace Go.Proofs.Ytndohmimcbmhdaa
open Go.RowKit Go.Sort

/-- The search where A and B are parted: below st A's one is at most its opposite of B, from r on it is greater. -/
def FindC (A B : List (Int × Int)) (a mid st0 r0 st r : Nat) : Prop := ∀ c x y, A[c - a]? = some x → B[mid - 1 - c]? = some y → st0 ≤ c → c < r0 → (c < st → x.1 ≤ y.1) ∧ (r ≤ c → y.1 < x.1)

/-- From where to where it goes. -/
def RangeC (a m mid b st0 r0 : Nat) : Prop := (mid < m ∧ st0 + b = mid + m ∧ r0 = mid) ∨ (m ≤ mid ∧ st0 = a ∧ r0 = m)

theorem findC_low {A B : List (Int × Int)} {a mid st0 r0 st r c : Nat} {x y : Int × Int} (hA : SortedC A) (hB : SortedC B) (hf : FindC A B a mid st0 r0 st r) (hx : A[c - a]? = some x) (hy : B[mid - 1 - c]? = some y) (hc : a ≤ c) (hm : c < mid) (ha : a ≤ st0)
    (hl : x.1 ≤ y.1) : FindC A B a mid st0 r0 (c + 1) r := fun k u v hu hv h0 h1 =>
  ⟨fun hk => by
    have e1 := sorted_get hA hu hx (by omega)
    have e2 := sorted_get hB hy hv (by omega)
    omega, (hf k u v hu hv h0 h1).2⟩
theorem findC_high {A B : List (Int × Int)} {a mid st0 r0 st r c : Nat} {x y : Int × Int} (hA : SortedC A) (hB : SortedC B) (hf : FindC A B a mid st0 r0 st r) (hx : A[c - a]? = some x) (hy : B[mid - 1 - c]? = some y) (hc : a ≤ c) (hm : c < mid) (ha : a ≤ st0)
    (hl : y.1 < x.1) : FindC A B a mid st0 r0 st c := fun k u v hu hv h0 h1 =>
  ⟨(hf k u v hu hv h0 h1).1, fun hk => by
    have e1 := sorted_get hA hx hu (by omega)
    have e2 := sorted_get hB hv hy (by omega)
    omega⟩

theorem split_facts {A B : List (Int × Int)} {a m mid b st0 r0 st : Nat} (hA : SortedC A) (hB : SortedC B) (hAl : a + A.length = m) (hBl : m + B.length = b) (hmid : mid * 2 ≤ a + b) (hmid2 : a + b ≤ mid * 2 + 1)
    (hr : RangeC a m mid b st0 r0) (h0 : st0 ≤ st) (h1 : st ≤ r0) (hf : FindC A B a mid st0 r0 st st) :
    ∃ A1 A2 B1 B2, A = A1 ++ A2 ∧ B = B1 ++ B2 ∧ A1.length = st - a ∧ B1.length = mid - st ∧ (∀ x ∈ A1, ∀ y ∈ B2, x.1 ≤ y.1) ∧ (∀ x ∈ A2, ∀ y ∈ B1, y.1 < x.1) := by
  have hb : a ≤ st0 ∧ r0 ≤ mid ∧ r0 ≤ m ∧ mid + m ≤ st0 + b := by rcases hr with ⟨_, _, _⟩ | ⟨_, _, _⟩ <;> omega
  refine ⟨A.take (st - a), A.drop (st - a), B.take (mid - st), B.drop (mid - st), by simp, by simp, by rw [List.length_take]; omega, by rw [List.length_take]; omega, ?_, ?_⟩
  · intro x hx y hy
    obtain ⟨k, hk, rfl⟩ := List.getElem_of_mem hx
    obtain ⟨l, hl, rfl⟩ := List.getElem_of_mem hy
    rw [List.length_take] at hk
    rw [List.length_drop] at hl
    have gx : A[k]? = some (A.take (st - a))[k] := by rw [List.getElem_take]; exact List.getElem?_eq_getElem (by omega)
    have gy : B[mid - st + l]? = some (B.drop (mid - st))[l] := by rw [List.getElem_drop]; exact List.getElem?_eq_getElem (by omega)
    by_cases hs : st = st0
    · exfalso
      rcases hr with ⟨_, _, _⟩ | ⟨_, _, _⟩ <;> omega
    · obtain ⟨u, hu⟩ : ∃ u, A[st - 1 - a]? = some u := ⟨_, List.getElem?_eq_getElem (by omega)⟩
      obtain ⟨v, hv⟩ : ∃ v, B[mid - 1 - (st - 1)]? = some v := ⟨_, List.getElem?_eq_getElem (by omega)⟩
      have e := (hf (st - 1) u v hu hv (by omega) (by omega)).1 (by omega)
      have e1 := sorted_get hA gx hu (by omega)
      have e2 := sorted_get hB hv gy (by omega)
      omega
  · intro x hx y hy
    obtain ⟨k, hk, rfl⟩ := List.getElem_of_mem hx
    obtain ⟨l, hl, rfl⟩ := List.getElem_of_mem hy
    rw [List.length_drop] at hk
    rw [List.length_take] at hl
    have gx : A[st - a + k]? = some (A.drop (st - a))[k] := by rw [List.getElem_drop]; exact List.getElem?_eq_getElem (by omega)
    have gy : B[l]? = some (B.take (mid - st))[l] := by rw [List.getElem_take]; exact List.getElem?_eq_getElem (by omega)
    by_cases hs : st = r0
    · exfalso
      rcases hr with ⟨_, _, _⟩ | ⟨_, _, _⟩ <;> omega
    · obtain ⟨u, hu⟩ : ∃ u, A[st - a]? = some u := ⟨_, List.getElem?_eq_getElem (by omega)⟩
      obtain ⟨v, hv⟩ : ∃ v, B[mid - 1 - st]? = some v := ⟨_, List.getElem?_eq_getElem (by omega)⟩
      have e := (hf st u v hu hv (by omega) (by omega)).2 (by omega)
      have e1 := sorted_get hA hu gx (by omega)
      have e2 := sorted_get hB gy hv (by omega)
      omega

theorem merge_whole {A1 A2 B1 B2 C1 C2 : List (Int × Int)} (hA : SortedC (A1 ++ A2)) (hB : SortedC (B1 ++ B2)) (h1 : ∀ x ∈ A1, ∀ y ∈ B2, x.1 ≤ y.1) (h2 : ∀ x ∈ A2, ∀ y ∈ B1, y.1 < x.1)
    (s1 : SortedC C1) (s2 : SortedC C2) (t1 : Stably C1 (A1 ++ B1)) (t2 : Stably C2 (A2 ++ B2)) : SortedC (C1 ++ C2) ∧ Stably (C1 ++ C2) (A1 ++ A2 ++ (B1 ++ B2)) := by
  refine ⟨SortedC.append s1 s2 ?_, ?_⟩
  · intro x hx y hy
    have hx' := t1.mem hx
    have hy' := t2.mem hy
    rcases List.mem_append.1 hx' with hx' | hx' <;> rcases List.mem_append.1 hy' with hy' | hy'
    · exact hA.cross x hx' y hy'
    · exact h1 x hx' y hy'
    · have := h2 y hy' x hx'; omega
    · exact hB.cross x hx' y hy'
  · refine Stably.trans (Stably.append t1 t2) ?_
    have e1 : A1 ++ B1 ++ (A2 ++ B2) = A1 ++ ((B1 ++ A2) ++ B2) := by simp
    have e2 : A1 ++ A2 ++ (B1 ++ B2) = A1 ++ ((A2 ++ B1) ++ B2) := by simp
    rw [e1, e2]
    exact Stably.append (Stably.refl _) (Stably.append (Stably.symm (stably_swap h2)) (Stably.refl _))

/-- What symMerge is to do, of at most N between a and b. -/
def SymSaid (N : Nat) : Prop := ∀ (w : World) (g len cap a m b : Nat) (p A B s : List (Int × Int)) (tl : List Value), Row w g (p ++ A ++ B ++ s) tl → (p ++ A ++ B ++ s).length = len → p.length = a → a + A.length = m → m + B.length = b → a < m → m < b → SortedC A → SortedC B →
    len ≤ cap → len ≤ 2305843009213693951 → b ≤ a + N →
    Calls Try.prog 169 #[.slice (some ⟨g, 0, none⟩) len cap, .int .i64 a, .int .i64 m, .int .i64 b, .func (.func 94) #[] #[]] w fun e w' =>
      e = .returned (.tuple #[]) ∧ ∃ C, Row w' g (p ++ C ++ s) tl ∧ w.grownBy w' (some g) ∧ SortedC C ∧ Stably C (A ++ B)

theorem short_sorted {A B : List (Int × Int)} (hA : SortedC A) (hB : SortedC B) (h : A.length = 0 ∨ B.length = 0) : SortedC (A ++ B) := by
  rcases h with h | h
  · rw [List.eq_nil_of_length_eq_zero h]; exact hB
  · rw [List.eq_nil_of_length_eq_zero h, List.append_nil]; exact hA
end Go.Proofs.Ytndohmimcbmhdaa
