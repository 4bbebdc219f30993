import Derived.Test.YtndohmimcbmhdaaX6
set_option linter.unusedVariables false
set_option linter.unusedSimpArgs false
namespace Go.Proofs.Ytndohmimcbmhdaa
open Go.RowKit Go.Sort

theorem symMerge169 : ∀ N, SymSaid N := by
  intro N
  induction N with
  | zero => intro w g len cap a m b p A B s tl hr hlen hP hA hB h1 h2 sA sB hc hm hN; omega
  | succ N ih =>
    intro w g len cap a m b p A B s tl hr hlen hP hA hB h1 h2 sA sB hc hm hN
    by_cases c1 : m = a + 1
    · obtain ⟨x, rfl⟩ : ∃ x, A = [x] := by
        match A, hA with
        | [], h => simp at h; omega
        | [x], _ => exact ⟨x, rfl⟩
        | x :: y :: r, h => simp at h; omega
      exact symMergeA w g len cap a m b p B s x tl hr hlen hP (by omega) hB sB hc hm
    · by_cases c2 : b = m + 1
      · obtain ⟨y, rfl⟩ : ∃ y, B = [y] := by
          match B, hB with
          | [], h => simp at h; omega
          | [x], _ => exact ⟨x, rfl⟩
          | x :: y :: r, h => simp at h; omega
        refine symMergeB w g len cap a m b p A s y tl (by simpa using hr) (by simpa using hlen) hP hA (by omega) (by omega) sA hc hm
      · exact symMergeC N ih w g len cap a m b p A B s tl hr hlen hP hA hB (by omega) (by omega) sA sB hc hm hN

/-- Sorted by blocks of bs. -/
def Blocks (bs : Nat) (l : List (Int × Int)) : Prop := ∀ i, SortedC ((l.drop (i * bs)).take bs)
/-- .. of whole blocks. -/
def WBlocks (bs : Nat) (l : List (Int × Int)) : Prop := Blocks bs l ∧ ∃ k, l.length = k * bs

theorem SortedC.sub {l r : List (Int × Int)} (h : SortedC r) (hs : l.Sublist r) : SortedC l := List.Pairwise.sublist hs h

theorem blocks_snoc {bs : Nat} {P Y : List (Int × Int)} (hP : WBlocks bs P) (hY : SortedC Y) (hl : Y.length ≤ bs) : Blocks bs (P ++ Y) := by
  obtain ⟨h1, k, hk⟩ := hP
  intro i
  by_cases c : i < k
  · have e : i * bs + bs ≤ P.length := by rw [hk]; have := Nat.mul_le_mul_right bs (show i + 1 ≤ k from c); rw [Nat.add_mul, Nat.one_mul] at this; exact this
    rw [List.drop_append_of_le_length (by omega), List.take_append_of_le_length (by rw [List.length_drop]; omega)]
    exact h1 i
  · refine hY.sub (List.Sublist.trans (List.take_sublist _ _) ?_)
    have e : P.length ≤ i * bs := by rw [hk]; exact Nat.mul_le_mul_right bs (by omega)
    rw [List.drop_append, List.drop_eq_nil_of_le e, List.nil_append]
    exact List.drop_sublist _ _
theorem wblocks_snoc {bs : Nat} {P Y : List (Int × Int)} (hP : WBlocks bs P) (hY : SortedC Y) (hl : Y.length = bs) : WBlocks bs (P ++ Y) :=
  ⟨blocks_snoc hP hY (by omega), by obtain ⟨_, k, hk⟩ := hP; exact ⟨k + 1, by rw [List.length_append, hk, hl, Nat.add_mul, Nat.one_mul]⟩⟩
theorem wblocks_nil (bs : Nat) : WBlocks bs [] := ⟨fun i => by simp; exact sortedC_nil, 0, by simp⟩
theorem Blocks.first {bs : Nat} {l : List (Int × Int)} (h : Blocks bs l) : SortedC (l.take bs) := by have := h 0; simpa using this
theorem Blocks.rest {bs : Nat} {l : List (Int × Int)} (h : Blocks bs l) : Blocks bs (l.drop bs) := fun i => by
  rw [List.drop_drop]
  have := h (i + 1)
  rw [Nat.add_mul, Nat.one_mul, Nat.add_comm] at this
  exact this
theorem Blocks.whole {bs : Nat} {l : List (Int × Int)} (h : Blocks bs l) (hl : l.length ≤ bs) : SortedC l := by
  have := h.first
  rwa [List.take_of_length_le hl] at this

end Go.Proofs.Ytndohmimcbmhdaa
