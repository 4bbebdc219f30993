/- The document's answer for labels, plain: identifiers, forms, orders, merges. -/
import Derived.Test.YtndohmimcbmhdaaLeq
import Derived.Test.YtndohmimcbmhdaaMg
set_option linter.unusedVariables false
set_option linter.unusedSimpArgs false
namespace Go.Proofs.Ytndohmimcbmhdaa
open Go.RowKit

/-! ### Identifiers, rising, each once -/
def stepI (c : Int) (s : List Int × Bool) (id : Int) : List Int × Bool :=
  ((if s.2 = false ∧ id ≥ c then s.1 ++ [c] else s.1) ++ (if id ≠ c then [id] else []), s.2 || decide (id ≥ c))
def insS (c : Int) (out : List Int) : List Int × Bool := out.foldl (stepI c) ([], false)
def insL (c : Int) (out : List Int) : List Int := if (insS c out).2 then (insS c out).1 else (insS c out).1 ++ [c]
def idsL (cs : List (Int × Int)) : List Int := cs.foldl (fun out c => insL c.1 out) []

theorem stepI_done (c : Int) : ∀ (l a : List Int), l.foldl (stepI c) (a, true) = (a ++ l.filter (fun x => x ≠ c), true) := by
  intro l
  induction l with
  | nil => intro a; simp
  | cons x l ih =>
    intro a
    rw [List.foldl_cons]
    have e : stepI c (a, true) x = (a ++ (if x ≠ c then [x] else []), true) := by simp [stepI]
    rw [e, ih]
    by_cases h : x = c <;> simp [h]

/-- Where a name stands in a rising list, and what is there then. -/
theorem insS_from (c : Int) : ∀ (l a : List Int), (a ++ l).Pairwise (· < ·) → (∀ x ∈ a, x < c) →
    ∃ r, (if (l.foldl (stepI c) (a, false)).2 then (l.foldl (stepI c) (a, false)).1 else (l.foldl (stepI c) (a, false)).1 ++ [c]) = r ∧ r.Pairwise (· < ·) ∧ (∀ x, x ∈ r ↔ x = c ∨ x ∈ a ∨ x ∈ l) ∧ r.length ≤ a.length + l.length + 1 := by
  intro l
  induction l with
  | nil =>
    intro a h ha
    refine ⟨a ++ [c], by simp, ?_, fun x => by grind, by grind⟩
    rw [List.append_nil] at h
    rw [List.pairwise_append]
    exact ⟨h, List.pairwise_singleton _ _, fun x hx y hy => by simp at hy; subst hy; exact ha x hx⟩
  | cons x l ih =>
    intro a h ha
    rw [List.foldl_cons]
    by_cases hx : x ≥ c
    · have hx2 : x ∉ a := fun hm => by have := ha x hm; omega
      have hlx : ∀ y ∈ l, x < y := by
        have h2 := (List.pairwise_append.1 h).2.1
        rw [List.pairwise_cons] at h2
        exact h2.1
      have hlf : l.filter (fun y => y ≠ c) = l := by
        rw [List.filter_eq_self]
        intro y hy
        have := hlx y hy
        simp; omega
      have hl2 := (List.pairwise_append.1 h).2.1
      have ha2 := (List.pairwise_append.1 h).1
      have e : stepI c (a, false) x = ((a ++ [c]) ++ (if x ≠ c then [x] else []), true) := by simp [stepI, hx]
      rw [e, stepI_done, hlf]
      refine ⟨_, rfl, ?_, fun y => ?_, by by_cases hc : x = c <;> simp [hc] <;> grind⟩
      · simp only [if_true]
        by_cases hc : x = c
        · subst hc
          simp only [ne_eq, not_true_eq_false, if_false, List.append_nil, List.append_assoc, List.singleton_append]
          rw [List.pairwise_append]
          exact ⟨ha2, hl2, fun p hp q hq => (List.pairwise_append.1 h).2.2 p hp q hq⟩
        · simp only [ne_eq, hc, not_false_eq_true, if_true, List.append_assoc, List.singleton_append]
          rw [List.pairwise_append]
          refine ⟨ha2, ?_, fun p hp q hq => ?_⟩
          · show List.Pairwise _ (c :: x :: l)
            rw [List.pairwise_cons]
            refine ⟨fun q hq => ?_, hl2⟩
            rcases List.mem_cons.1 hq with rfl | hq
            · omega
            · have := hlx q hq; omega
          · have := ha p hp
            rcases List.mem_cons.1 hq with rfl | hq
            · exact this
            · rcases List.mem_cons.1 hq with rfl | hq
              · omega
              · have := hlx q hq; omega
      · simp only [if_true]
        by_cases hc : x = c
        · subst hc; grind
        · grind
    · have e : stepI c (a, false) x = (a ++ [x], false) := by
        have h1 : x ≠ c := by omega
        simp [stepI, hx, h1]
      rw [e]
      obtain ⟨r, h1, h2, h3, h4⟩ := ih (a ++ [x]) (by simpa using h) (fun y hy => by
        rcases List.mem_append.1 hy with hy | hy
        · exact ha y hy
        · simp at hy; subst hy; omega)
      refine ⟨r, h1, h2, fun y => ?_, by grind⟩
      rw [h3]; grind

theorem insL_facts (c : Int) (l : List Int) (h : l.Pairwise (· < ·)) : (insL c l).Pairwise (· < ·) ∧ (∀ x, x ∈ insL c l ↔ x = c ∨ x ∈ l) ∧ (insL c l).length ≤ l.length + 1 := by
  obtain ⟨r, h1, h2, h3, h4⟩ := insS_from c l [] (by simpa using h) (by simp)
  have e : insL c l = r := h1
  rw [e]
  exact ⟨h2, fun x => by rw [h3]; simp, by simpa using h4⟩

theorem idsL_from : ∀ (cs : List (Int × Int)) (o : List Int), o.Pairwise (· < ·) →
    (cs.foldl (fun out c => insL c.1 out) o).Pairwise (· < ·) ∧ (∀ x, x ∈ cs.foldl (fun out c => insL c.1 out) o ↔ x ∈ o ∨ ∃ c ∈ cs, c.1 = x) ∧ (cs.foldl (fun out c => insL c.1 out) o).length ≤ o.length + cs.length := by
  intro cs
  induction cs with
  | nil => intro o h; exact ⟨h, fun x => by simp, by simp⟩
  | cons c cs ih =>
    intro o h
    obtain ⟨i1, i2, i3⟩ := insL_facts c.1 o h
    obtain ⟨j1, j2, j3⟩ := ih (insL c.1 o) i1
    refine ⟨j1, fun x => ?_, by simp only [List.foldl_cons, List.length_cons]; omega⟩
    rw [List.foldl_cons, j2, i2]
    simp only [List.mem_cons, exists_eq_or_imp]
    constructor
    · rintro ((rfl | h) | h)
      · exact .inr (.inl rfl)
      · exact .inl h
      · exact .inr (.inr h)
    · rintro (h | rfl | h)
      · exact .inl (.inr h)
      · exact .inl (.inl rfl)
      · exact .inr h

theorem idsL_rise (cs : List (Int × Int)) : (idsL cs).Pairwise (· < ·) := (idsL_from cs [] List.Pairwise.nil).1
theorem idsL_mem (cs : List (Int × Int)) (x : Int) : x ∈ idsL cs ↔ ∃ c ∈ cs, c.1 = x := by
  have := (idsL_from cs [] List.Pairwise.nil).2.1 x
  simpa [idsL] using this
theorem idsL_len (cs : List (Int × Int)) : (idsL cs).length ≤ cs.length := by
  have := (idsL_from cs [] List.Pairwise.nil).2.2
  simpa [idsL] using this

/-! ### Levels -/
theorem levelL_none (d : Int) (cs : List (Int × Int)) (id : Int) (h : ∀ c ∈ cs, c.1 ≠ id) : levelL d cs id = d := by
  have : cs.find? (fun c => c.1 == id) = none := by
    rw [List.find?_eq_none]; intro x hx; simpa using h x hx
  unfold levelL; rw [this]
theorem levelL_cons (d : Int) (c : Int × Int) (cs : List (Int × Int)) (id : Int) : levelL d (c :: cs) id = if c.1 = id then c.2 else levelL d cs id := by
  unfold levelL
  by_cases h : c.1 = id
  · rw [List.find?_cons_of_pos (by simpa using h), if_pos h]
  · rw [List.find?_cons_of_neg (by simpa using h), if_neg h]
/-- Of what is mapped name by name. -/
theorem levelL_map (d : Int) (f : Int → Int) : ∀ (l : List Int) (id : Int), levelL d (l.map fun i => (i, f i)) id = if id ∈ l then f id else d := by
  intro l id
  induction l with
  | nil => simp [levelL]
  | cons x l ih =>
    rw [List.map_cons, levelL_cons, ih]
    by_cases h : x = id
    · subst h; simp
    · simp [h, Ne.symm h]

theorem IsForm.same {d : Int} {cs cs' F G : List (Int × Int)} (h : IsForm d cs F) (k : IsForm d cs' G) (e : ∀ id, levelL d cs id = levelL d cs' id) : F = G := by
  refine rise_ext F G h.rise k.rise fun x => ?_
  rw [levelL_mem h.rise h.none_, levelL_mem k.rise k.none_, h.level, k.level, e]

/-- The document's form. -/
def formL (d : Int) (cs : List (Int × Int)) : List (Int × Int) := ((idsL cs).filter fun id => levelL d cs id ≠ d).map fun id => (id, levelL d cs id)
theorem formL_is (d : Int) (cs : List (Int × Int)) : IsForm d cs (formL d cs) := by
  refine ⟨?_, ?_, fun id => ?_, ?_⟩
  · unfold formL
    rw [List.pairwise_map]
    exact ((idsL_rise cs).filter _)
  · intro x hx
    unfold formL at hx
    obtain ⟨i, hi, rfl⟩ := List.mem_map.1 hx
    have := (List.mem_filter.1 hi).2
    simpa using this
  · unfold formL
    rw [levelL_map]
    split
    · rfl
    · rename_i h
      rw [List.mem_filter] at h
      by_cases hm : id ∈ idsL cs
      · have : ¬ (levelL d cs id ≠ d) := fun hne => h ⟨hm, by simpa using hne⟩
        exact (Classical.not_not.1 this).symm
      · rw [idsL_mem] at hm
        exact (levelL_none d cs id fun c hc he => hm ⟨c, hc, he⟩).symm
  · unfold formL
    rw [List.length_map]
    exact Nat.le_trans (List.length_filter_le _ _) (idsL_len cs)

/-! ### Orders -/
theorem leqB_iff (d : Int) (cs : List (Int × Int)) (d' : Int) (cs' : List (Int × Int)) : leqB d cs d' cs' = true ↔ d ≤ d' ∧ ∀ id, levelL d cs id ≤ levelL d' cs' id := by
  unfold leqB
  rw [Bool.and_eq_true, Bool.and_eq_true, decide_eq_true_eq, Bool.not_eq_true', Bool.not_eq_true', List.any_eq_false, List.any_eq_false]
  constructor
  · rintro ⟨⟨h1, h2⟩, h3⟩
    refine ⟨h1, fun id => ?_⟩
    by_cases m : ∃ c ∈ cs, c.1 = id
    · obtain ⟨c, hc, rfl⟩ := m
      have := h2 c hc
      simp only [aboveT, decide_eq_true_eq] at this
      omega
    · by_cases m' : ∃ c ∈ cs', c.1 = id
      · obtain ⟨c, hc, rfl⟩ := m'
        have := h3 c hc
        simp only [aboveT, decide_eq_true_eq] at this
        omega
      · rw [levelL_none d cs id fun c hc he => m ⟨c, hc, he⟩, levelL_none d' cs' id fun c hc he => m' ⟨c, hc, he⟩]
        exact h1
  · rintro ⟨h1, h2⟩
    refine ⟨⟨h1, fun c _ => ?_⟩, fun c _ => ?_⟩
    · have := h2 c.1
      simp only [aboveT, decide_eq_true_eq]; omega
    · have := h2 c.1
      simp only [aboveT, decide_eq_true_eq]; omega

def leqD (d : Int) (cs : List (Int × Int)) (d' : Int) (cs' : List (Int × Int)) : Bool := decide (d ≤ d') && (idsL (cs ++ cs')).all fun id => decide (levelL d cs id ≤ levelL d' cs' id)
theorem leqD_eq (d : Int) (cs : List (Int × Int)) (d' : Int) (cs' : List (Int × Int)) : leqD d cs d' cs' = leqB d cs d' cs' := by
  rw [Bool.eq_iff_iff, leqB_iff]
  unfold leqD
  rw [Bool.and_eq_true, decide_eq_true_eq, List.all_eq_true]
  constructor
  · rintro ⟨h1, h2⟩
    refine ⟨h1, fun id => ?_⟩
    by_cases m : id ∈ idsL (cs ++ cs')
    · simpa using h2 id m
    · rw [idsL_mem] at m
      rw [levelL_none d cs id fun c hc he => m ⟨c, List.mem_append.2 (.inl hc), he⟩, levelL_none d' cs' id fun c hc he => m ⟨c, List.mem_append.2 (.inr hc), he⟩]
      exact h1
  · rintro ⟨h1, h2⟩
    exact ⟨h1, fun id _ => by simpa using h2 id⟩

/-! ### Merges, turns -/
theorem levelL_merge (f : Int → Int → Int) (d : Int) (cs : List (Int × Int)) (d' : Int) (cs' : List (Int × Int)) (id : Int) :
    levelL (f d d') (mergeL f d cs d' cs') id = f (levelL d cs id) (levelL d' cs' id) := by
  have key : ∀ l : List (Int × Int), levelL (f d d') (l.map (mergeC f d cs d' cs')) id = if ∃ c ∈ l, c.1 = id then f (levelL d cs id) (levelL d' cs' id) else f d d' := by
    intro l
    induction l with
    | nil => simp [levelL]
    | cons x l ih =>
      rw [List.map_cons, levelL_cons, ih]
      by_cases h : x.1 = id
      · subst h
        rw [if_pos (show (mergeC f d cs d' cs' x).1 = x.1 from rfl), if_pos ⟨x, List.mem_cons_self, rfl⟩]; rfl
      · have e : (mergeC f d cs d' cs' x).1 ≠ id := h
        rw [if_neg e]
        by_cases m : ∃ c ∈ l, c.1 = id
        · have m2 : ∃ c ∈ x :: l, c.1 = id := by obtain ⟨c, hc, he⟩ := m; exact ⟨c, List.mem_cons_of_mem _ hc, he⟩
          rw [if_pos m, if_pos m2]
        · have m2 : ¬ ∃ c ∈ x :: l, c.1 = id := by
            rintro ⟨c, hc, he⟩
            rcases List.mem_cons.1 hc with rfl | hc
            · exact h he
            · exact m ⟨c, hc, he⟩
          rw [if_neg m, if_neg m2]
  unfold mergeL
  rw [key]
  split
  · rfl
  · rename_i h
    rw [levelL_none d cs id fun c hc he => h ⟨c, List.mem_append.2 (.inl hc), he⟩, levelL_none d' cs' id fun c hc he => h ⟨c, List.mem_append.2 (.inr hc), he⟩]

/-- The document's merge: name by name. -/
def mergeD (f : Int → Int → Int) (d : Int) (cs : List (Int × Int)) (d' : Int) (cs' : List (Int × Int)) : List (Int × Int) := (idsL (cs ++ cs')).map fun id => (id, f (levelL d cs id) (levelL d' cs' id))
theorem levelL_mergeD (f : Int → Int → Int) (d : Int) (cs : List (Int × Int)) (d' : Int) (cs' : List (Int × Int)) (id : Int) :
    levelL (f d d') (mergeD f d cs d' cs') id = f (levelL d cs id) (levelL d' cs' id) := by
  unfold mergeD
  rw [levelL_map (f d d') (fun id => f (levelL d cs id) (levelL d' cs' id))]
  split
  · rfl
  · rename_i h
    rw [idsL_mem] at h
    rw [levelL_none d cs id fun c hc he => h ⟨c, List.mem_append.2 (.inl hc), he⟩, levelL_none d' cs' id fun c hc he => h ⟨c, List.mem_append.2 (.inr hc), he⟩]
theorem merge_same {f : Int → Int → Int} {d : Int} {cs : List (Int × Int)} {d' : Int} {cs' F : List (Int × Int)} (h : IsForm (f d d') (mergeL f d cs d' cs') F) : F = formL (f d d') (mergeD f d cs d' cs') :=
  h.same (formL_is _ _) fun id => by rw [levelL_merge, levelL_mergeD]

theorem form_level {d : Int} {cs F : List (Int × Int)} (h : IsForm d cs F) (id : Int) : levelL d F id = levelL d cs id := h.level id

end Go.Proofs.Ytndohmimcbmhdaa
