/- A label's form, plain. -/
import Derived.Test.YtndohmimcbmhdaaNil
set_option linter.unusedVariables false
set_option linter.unusedSimpArgs false
namespace Go.Proofs.Ytndohmimcbmhdaa
open Go.RowKit Go.Sort

/-- The level of a category: the first that bears the name, else the default. -/
def levelL (d : Int) (cs : List (Int × Int)) (id : Int) : Int := match cs.find? (fun c => c.1 == id) with | some c => c.2 | none => d

/-- The form of a label. -/
structure IsForm (d : Int) (cs F : List (Int × Int)) : Prop where
  rise : F.Pairwise (fun a b => a.1 < b.1)
  none_ : ∀ x ∈ F, x.2 ≠ d
  level : ∀ id, levelL d F id = levelL d cs id
  less : F.length ≤ cs.length

theorem find_of_mem {F : List (Int × Int)} (h : F.Pairwise (fun a b => a.1 < b.1)) {x : Int × Int} (hx : x ∈ F) : F.find? (fun c => c.1 == x.1) = some x := by
  induction F with
  | nil => cases hx
  | cons y F ih =>
    rw [List.pairwise_cons] at h
    rcases List.mem_cons.1 hx with rfl | hx
    · simp
    · have := h.1 x hx
      rw [List.find?_cons_of_neg (by simp; omega)]
      exact ih h.2 hx

theorem levelL_mem {d : Int} {F : List (Int × Int)} (h : F.Pairwise (fun a b => a.1 < b.1)) (hn : ∀ x ∈ F, x.2 ≠ d) (x : Int × Int) : x ∈ F ↔ levelL d F x.1 = x.2 ∧ x.2 ≠ d := by
  constructor
  · intro hx
    refine ⟨?_, hn x hx⟩
    unfold levelL; rw [find_of_mem h hx]
  · rintro ⟨h1, h2⟩
    unfold levelL at h1
    cases hf : F.find? (fun c => c.1 == x.1) with
    | none => rw [hf] at h1; exact absurd h1.symm h2
    | some c =>
      rw [hf] at h1
      have hm := List.mem_of_find?_eq_some hf
      have he : c.1 = x.1 := by simpa using List.find?_some hf
      have : c = x := Prod.ext he h1
      rwa [← this]

theorem rise_ext : ∀ (F G : List (Int × Int)), F.Pairwise (fun a b => a.1 < b.1) → G.Pairwise (fun a b => a.1 < b.1) → (∀ x, x ∈ F ↔ x ∈ G) → F = G := by
  intro F
  induction F with
  | nil =>
    intro G _ _ h
    cases G with
    | nil => rfl
    | cons y G => exact absurd ((h y).2 (by simp)) (by simp)
  | cons x F ih =>
    intro G hF hG h
    cases G with
    | nil => exact absurd ((h x).1 (by simp)) (by simp)
    | cons y G =>
      rw [List.pairwise_cons] at hF hG
      have e : x = y := by
        rcases List.mem_cons.1 ((h x).1 (by simp)) with rfl | hx
        · rfl
        · rcases List.mem_cons.1 ((h y).2 (by simp)) with rfl | hy
          · rfl
          · have := hG.1 x hx; have := hF.1 y hy; omega
      subst e
      congr 1
      refine ih G hF.2 hG.2 fun z => ?_
      constructor
      · intro hz
        rcases List.mem_cons.1 ((h z).1 (by simp [hz])) with rfl | hz'
        · have := hF.1 _ hz; omega
        · exact hz'
      · intro hz
        rcases List.mem_cons.1 ((h z).2 (by simp [hz])) with rfl | hz'
        · have := hG.1 _ hz; omega
        · exact hz'

theorem IsForm.unique {d : Int} {cs F G : List (Int × Int)} (h : IsForm d cs F) (k : IsForm d cs G) : F = G := by
  refine rise_ext F G h.rise k.rise fun x => ?_
  rw [levelL_mem h.rise h.none_, levelL_mem k.rise k.none_, h.level, k.level]

theorem compactFrom_facts : ∀ (r : List (Int × Int)) (x : Int × Int), (x :: r).Pairwise (fun a b => a.1 ≤ b.1) →
    (compactFrom x r).Pairwise (fun a b => a.1 < b.1) ∧ (∀ y ∈ compactFrom x r, x.1 < y.1) ∧ (∀ id, id ≠ x.1 → (compactFrom x r).find? (fun c => c.1 == id) = r.find? (fun c => c.1 == id)) ∧ (compactFrom x r).length ≤ r.length := by
  intro r
  induction r with
  | nil => intro x _; exact ⟨List.Pairwise.nil, (by intro y hy; cases hy), fun _ _ => rfl, Nat.le_refl _⟩
  | cons y r ih =>
    intro x h
    rw [List.pairwise_cons] at h
    obtain ⟨i1, i2, i3, i4⟩ := ih y h.2
    have hxy := h.1 y (by simp)
    unfold compactFrom
    by_cases e : (y.1 == x.1) = true
    · rw [if_pos e]
      have e' : y.1 = x.1 := by simpa using e
      refine ⟨i1, fun z hz => by have := i2 z hz; omega, fun id hid => ?_, by simp; omega⟩
      rw [i3 id (by omega), List.find?_cons_of_neg (by simp; omega)]
    · rw [if_neg e]
      have e' : y.1 ≠ x.1 := by simpa using e
      refine ⟨List.pairwise_cons.2 ⟨i2, i1⟩, fun z hz => ?_, fun id hid => ?_, by simp; omega⟩
      · rcases List.mem_cons.1 hz with rfl | hz
        · omega
        · have := i2 z hz; omega
      · by_cases hy : y.1 = id
        · rw [List.find?_cons_of_pos (by simpa using hy), List.find?_cons_of_pos (by simpa using hy)]
        · rw [List.find?_cons_of_neg (by simpa using hy), List.find?_cons_of_neg (by simpa using hy)]
          exact i3 id (by omega)

theorem compact_facts (C : List (Int × Int)) (h : C.Pairwise (fun a b => a.1 ≤ b.1)) :
    (compactL C).Pairwise (fun a b => a.1 < b.1) ∧ (∀ id, (compactL C).find? (fun c => c.1 == id) = C.find? (fun c => c.1 == id)) ∧ (compactL C).length ≤ C.length := by
  cases C with
  | nil => exact ⟨List.Pairwise.nil, fun _ => rfl, Nat.le_refl _⟩
  | cons x r =>
    obtain ⟨i1, i2, i3, i4⟩ := compactFrom_facts r x h
    refine ⟨List.pairwise_cons.2 ⟨i2, i1⟩, fun id => ?_, by simp [compactL]; omega⟩
    unfold compactL
    by_cases hx : x.1 = id
    · rw [List.find?_cons_of_pos (by simpa using hx), List.find?_cons_of_pos (by simpa using hx)]
    · rw [List.find?_cons_of_neg (by simpa using hx), List.find?_cons_of_neg (by simpa using hx)]
      exact i3 id (by omega)

theorem stably_find {C cs : List (Int × Int)} (h : Stably C cs) (id : Int) : C.find? (fun c => c.1 == id) = cs.find? (fun c => c.1 == id) := by
  rw [← List.head?_filter, ← List.head?_filter]
  exact congrArg List.head? (h id)

theorem form_of (d : Int) (cs C : List (Int × Int)) (hs : C.Pairwise (fun a b => a.1 ≤ b.1)) (hst : Stably C cs) (hl : C.length = cs.length) : IsForm d cs ((compactL C).filter (fun x => !(x.2 == d))) := by
  obtain ⟨i1, i2, i3⟩ := compact_facts C hs
  refine ⟨i1.filter _, fun x hx => ?_, fun id => ?_, ?_⟩
  · have := (List.mem_filter.1 hx).2; simpa using this
  · have e : levelL d cs id = levelL d (compactL C) id := by unfold levelL; rw [i2, stably_find hst]
    rw [e]
    have hr : ((compactL C).filter (fun x => !(x.2 == d))).Pairwise (fun a b => a.1 < b.1) := i1.filter _
    unfold levelL
    cases hf : (compactL C).find? (fun c => c.1 == id) with
    | none =>
      have : ((compactL C).filter (fun x => !(x.2 == d))).find? (fun c => c.1 == id) = none := by
        rw [List.find?_eq_none] at hf ⊢
        intro x hx
        exact hf x (List.mem_filter.1 hx).1
      rw [this]
    | some c =>
      have hm := List.mem_of_find?_eq_some hf
      have he : c.1 = id := by simpa using List.find?_some hf
      by_cases hd : c.2 = d
      · have : ((compactL C).filter (fun x => !(x.2 == d))).find? (fun c => c.1 == id) = none := by
          rw [List.find?_eq_none]
          intro x hx hxe
          have hxe' : x.1 = id := by simpa using hxe
          obtain ⟨hx1, hx2⟩ := List.mem_filter.1 hx
          have hfx := find_of_mem i1 hx1
          rw [hxe', hf] at hfx
          cases hfx
          simp at hx2; exact hx2 hd
        rw [this]; exact hd.symm
      · have : ((compactL C).filter (fun x => !(x.2 == d))).find? (fun c => c.1 == id) = some c := by
          have hm2 : c ∈ (compactL C).filter (fun x => !(x.2 == d)) := List.mem_filter.2 ⟨hm, by simpa using hd⟩
          have := find_of_mem hr hm2
          rwa [he] at this
        rw [this]
  · have := List.length_filter_le (fun x : Int × Int => !(x.2 == d)) (compactL C)
    omega
end Go.Proofs.Ytndohmimcbmhdaa
