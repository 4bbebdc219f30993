/- Plain lists of categories: sorted by name, and which order those of one name stand in. -/
namespace Go.Proofs.Ytndohmimcbmhdaa

/-- Rising by name (equals may stand side by side). -/
def SortedC (l : List (Int × Int)) : Prop := l.Pairwise (fun x y => x.1 ≤ y.1)
/-- Those of one name, in their order. -/
def named (l : List (Int × Int)) (i : Int) : List (Int × Int) := l.filter (fun c => c.1 == i)
/-- The same ones, those of one name in the same order. -/
def Stably (l r : List (Int × Int)) : Prop := ∀ i, named l i = named r i

theorem Stably.refl (l : List (Int × Int)) : Stably l l := fun _ => rfl
theorem Stably.symm {l r : List (Int × Int)} (h : Stably l r) : Stably r l := fun i => (h i).symm
theorem Stably.trans {a b c : List (Int × Int)} (h : Stably a b) (k : Stably b c) : Stably a c := fun i => (h i).trans (k i)
theorem named_append (l r : List (Int × Int)) (i : Int) : named (l ++ r) i = named l i ++ named r i := by simp [named]
theorem Stably.append {a b c d : List (Int × Int)} (h : Stably a b) (k : Stably c d) : Stably (a ++ c) (b ++ d) := fun i => by rw [named_append, named_append, h i, k i]
theorem mem_named {l : List (Int × Int)} {c : Int × Int} : c ∈ l ↔ c ∈ named l c.1 := by simp [named]
theorem Stably.mem {l r : List (Int × Int)} (h : Stably l r) {c : Int × Int} (hc : c ∈ l) : c ∈ r := by
  rw [mem_named] at hc ⊢
  rw [← h c.1]; exact hc

theorem named_nil_of_ne {l : List (Int × Int)} {i : Int} (h : ∀ c ∈ l, c.1 ≠ i) : named l i = [] := by
  simp only [named, List.filter_eq_nil_iff, beq_iff_eq]; exact h

/-- What stands behind is strictly greater than what is laid ahead of it: their order among those of one name is as it was. -/
theorem stably_swap {X Y : List (Int × Int)} (h : ∀ x ∈ X, ∀ y ∈ Y, y.1 < x.1) : Stably (X ++ Y) (Y ++ X) := fun i => by
  rw [named_append, named_append]
  by_cases hx : ∃ x ∈ X, x.1 = i
  · obtain ⟨x, hx, rfl⟩ := hx
    rw [named_nil_of_ne (l := Y) (fun y hy => by have := h x hx y hy; omega)]
    simp
  · rw [named_nil_of_ne (l := X) (fun c hc e => hx ⟨c, hc, e⟩)]
    simp

theorem SortedC.append {a b : List (Int × Int)} (ha : SortedC a) (hb : SortedC b) (h : ∀ x ∈ a, ∀ y ∈ b, x.1 ≤ y.1) : SortedC (a ++ b) :=
  List.pairwise_append.2 ⟨ha, hb, h⟩
theorem SortedC.left {a b : List (Int × Int)} (h : SortedC (a ++ b)) : SortedC a := (List.pairwise_append.1 h).1
theorem SortedC.right {a b : List (Int × Int)} (h : SortedC (a ++ b)) : SortedC b := (List.pairwise_append.1 h).2.1
theorem SortedC.cross {a b : List (Int × Int)} (h : SortedC (a ++ b)) : ∀ x ∈ a, ∀ y ∈ b, x.1 ≤ y.1 := (List.pairwise_append.1 h).2.2
theorem sortedC_nil : SortedC [] := List.Pairwise.nil
theorem sortedC_one (x : Int × Int) : SortedC [x] := List.pairwise_singleton _ _

theorem swap_at {A B : List (Int × Int)} {x y : Int × Int} : ((A ++ y :: x :: B).set (A.length + 1) y).set A.length x = A ++ x :: y :: B := by
  rw [List.set_append_right _ _ (by omega), List.set_append_right _ _ (by omega)]
  simp
theorem swap_at' {A B : List (Int × Int)} {x y : Int × Int} : ((A ++ y :: x :: B).set A.length x).set (A.length + 1) y = A ++ x :: y :: B := by
  rw [List.set_append_right _ _ (by omega), List.set_append_right _ _ (by omega)]
  simp
theorem get_at {A B : List (Int × Int)} {x : Int × Int} : (A ++ x :: B)[A.length]? = some x := by simp
theorem get_at1 {A B : List (Int × Int)} {x y : Int × Int} : (A ++ y :: x :: B)[A.length + 1]? = some x := by
  rw [List.getElem?_append_right (by omega)]; simp

/-- One more is laid where it belongs. -/
theorem insert_sorted {Y1 Y2 : List (Int × Int)} {x : Int × Int} (hs : SortedC (Y1 ++ Y2)) (h2 : ∀ y ∈ Y2, x.1 < y.1) (h1 : ∀ y ∈ Y1, y.1 ≤ x.1) : SortedC (Y1 ++ x :: Y2) := by
  have e : Y1 ++ x :: Y2 = Y1 ++ ([x] ++ Y2) := rfl
  rw [e]
  refine SortedC.append hs.left (SortedC.append (sortedC_one x) hs.right ?_) ?_
  · intro a ha b hb; simp at ha; subst ha; have := h2 b hb; omega
  · intro a ha b hb
    rcases List.mem_append.1 hb with hb | hb
    · simp at hb; subst hb; exact h1 a ha
    · exact hs.cross a ha b hb
theorem insert_stably {Y1 Y2 : List (Int × Int)} {x : Int × Int} (h2 : ∀ y ∈ Y2, x.1 < y.1) : Stably (Y1 ++ x :: Y2) (Y1 ++ Y2 ++ [x]) := by
  have e : Y1 ++ x :: Y2 = Y1 ++ ([x] ++ Y2) := rfl
  rw [e, List.append_assoc]
  refine Stably.append (Stably.refl _) (Stably.symm (stably_swap ?_))
  intro a ha b hb; simp at hb; subst hb; exact h2 a ha

theorem stably_perm {l r : List (Int × Int)} (h : Stably l r) : l.Perm r := by
  rw [List.perm_iff_count]
  intro a
  have e : ∀ l : List (Int × Int), l.count a = (named l a.1).count a := by
    intro l
    induction l with
    | nil => rfl
    | cons c l ih =>
      unfold named at *
      by_cases hc : c.1 = a.1
      · rw [List.filter_cons_of_pos (by simpa using hc), List.count_cons, List.count_cons, ih]
      · rw [List.filter_cons_of_neg (by simpa using hc), List.count_cons, ih]
        have : ¬ (c == a) = true := by intro h; have := eq_of_beq h; subst this; exact hc rfl
        simp [this]
  rw [e l, e r, h a.1]

end Go.Proofs.Ytndohmimcbmhdaa
