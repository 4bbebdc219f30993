/- Who makes a category owns it: the plain law. -/
import Derived.Test.YtndohmimcbmhdaaNb3
set_option linter.unusedVariables false
set_option linter.unusedSimpArgs false
namespace Go.Proofs.Ytndohmimcbmhdaa
open Go.RowKit Go.Sort

section
variable {d c : Int} {l : List (Int × Int)}
theorem level_head (a : Int) : levelL d ((c, a) :: l) c = a := by unfold levelL; simp
theorem level_tail {id : Int} (a : Int) (h : id ≠ c) : levelL d ((c, a) :: l) id = levelL d l id := by
  have : (c == id) = false := by simpa using Ne.symm h
  unfold levelL
  simp [this]
theorem set_again (a b : Int) : formL d ((c, b) :: formL d ((c, a) :: l)) = formL d ((c, b) :: l) :=
  (formL_is _ _).same (formL_is _ _) fun id => by
    by_cases h : id = c
    · subst h; rw [level_head, level_head]
    · rw [level_tail b h, level_tail b h, level_form, level_tail a h]
theorem ids_set (a b : Int) : idsL ((c, a) :: l) = idsL ((c, b) :: l) := rfl
theorem set_len (h : (0 : Int) ≠ d) : (formL d ((c, 4) :: l)).length ≤ (formL d ((c, 0) :: l)).length := by
  unfold formL
  rw [List.length_map, List.length_map, ids_set 4 0, ← List.countP_eq_length_filter, ← List.countP_eq_length_filter]
  refine List.countP_mono_left fun id _ hp => ?_
  simp only [decide_eq_true_eq] at hp ⊢
  by_cases e : id = c
  · subst e; rw [level_head]; exact h
  · rw [level_tail 0 e]; rw [level_tail 4 e] at hp; exact hp
theorem mem_form {cs : List (Int × Int)} (x : Int × Int) : x ∈ formL d cs ↔ levelL d cs x.1 = x.2 ∧ x.2 ≠ d := by
  rw [levelL_mem (formL_is d cs).rise (formL_is d cs).none_, level_form]
/-- A right label in which a category is owned is right too where it taints. -/
theorem right_taint (h : rightB d (formL d ((c, 0) :: l)) = true) : rightB d (formL d ((c, 4) :: formL d ((c, 0) :: l))) = true := by
  have hd := right_def2 h
  have hl := right_len h
  rw [set_again]
  have hodd : ∀ x ∈ formL d ((c, 0) :: l), oddC x = false := by
    unfold rightB at h
    simp only [Bool.and_eq_true, Bool.not_eq_true'] at h
    intro x hx
    cases ho : oddC x with
    | false => rfl
    | true =>
      have := h.2.2
      rw [List.any_eq_true.2 ⟨x, hx, ho⟩] at this
      cases this
  have hlen := Nat.le_trans (set_len (d := d) (c := c) (l := l) (by omega)) hl
  have hself : formL d (formL d ((c, 4) :: l)) = formL d ((c, 4) :: l) := (formL_is _ _).same (formL_is _ _) fun id => level_form _ _ _
  unfold rightB
  rw [decide_eq_true ⟨hd.1, hd.2, hlen⟩, hself, Bool.true_and, show eqB (formL d ((c, 4) :: l)) (formL d ((c, 4) :: l)) = true from decide_eq_true rfl, Bool.true_and, Bool.not_eq_true']
  cases ha : (formL d ((c, 4) :: l)).any oddC with
  | false => rfl
  | true =>
    obtain ⟨x, hx, ho⟩ := List.any_eq_true.1 ha
    obtain ⟨h1, h2⟩ := (mem_form x).1 hx
    by_cases e : x.1 = c
    · have hc := hodd (c, 0) ((mem_form _).2 ⟨level_head 0, by show (0 : Int) ≠ d; omega⟩)
      rw [e, level_head] at h1
      unfold oddC at hc ho
      simp only [decide_eq_false_iff_not, decide_eq_true_eq] at hc ho
      rw [e, ← h1] at ho
      omega
    · have := hodd x ((mem_form x).2 ⟨by rw [level_tail 0 e]; rw [level_tail 4 e] at h1; exact h1, h2⟩)
      rw [this] at ho; cases ho
end
/-- Where what has been minted may flow from the label to the clearance, the label may be tainted by it. -/
theorem taint_ok {d e c : Int} {l r : List (Int × Int)} (h : rightB d (formL d ((c, 0) :: l)) = true) (hl : leqB d (formL d ((c, 0) :: l)) e (formL e ((c, 4) :: r)) = true) :
    taintsB d (formL d ((c, 0) :: l)) e (formL e ((c, 4) :: r)) d (formL d ((c, 4) :: formL d ((c, 0) :: l))) = true := by
  obtain ⟨h1, h2⟩ := (leqB_iff _ _ _ _).1 hl
  unfold taintsB
  rw [right_taint h, set_again, Bool.true_and, Bool.and_eq_true]
  refine ⟨leqB_true (Int.le_refl _) fun id => ?_, leqB_true h1 fun id => ?_⟩
  · rw [level_form, level_form]
    by_cases hi : id = c
    · subst hi; rw [level_head, level_head]; decide
    · rw [level_tail 0 hi, level_tail 4 hi]; exact Int.le_refl _
  · have := h2 id
    rw [level_form, level_form] at this ⊢
    by_cases hi : id = c
    · subst hi; rw [level_head, level_head]; exact Int.le_refl _
    · rw [level_tail 0 hi] at this; rw [level_tail 4 hi]; exact this
end Go.Proofs.Ytndohmimcbmhdaa
