/- Categories in memory: two cells each; a block that is a row of them. -/
import Derived.Test.YtndohmimcbmhdaaWords
set_option linter.unusedVariables false
set_option linter.unusedSimpArgs false
namespace Go.Proofs.Ytndohmimcbmhdaa
open Go.RowKit

/-- A category's two cells. -/
def catCells (c : Int × Int) : List Value := [.int .u64 c.1, .int .i64 c.2]
def flat (cs : List (Int × Int)) : List Value := cs.flatMap catCells

@[simp] theorem flat_nil : flat [] = [] := rfl
@[simp] theorem flat_cons (c : Int × Int) (cs : List (Int × Int)) : flat (c :: cs) = .int .u64 c.1 :: .int .i64 c.2 :: flat cs := rfl
theorem flat_append (cs ds : List (Int × Int)) : flat (cs ++ ds) = flat cs ++ flat ds := by simp [flat]
@[simp] theorem flat_length (cs : List (Int × Int)) : (flat cs).length = cs.length * 2 := by
  induction cs with
  | nil => rfl
  | cons c cs ih => simp [ih]; omega
theorem flat_get0 : ∀ (cs : List (Int × Int)) (i : Nat) (c : Int × Int), cs[i]? = some c → (flat cs)[i * 2]? = some (.int .u64 c.1) := by
  intro cs
  induction cs with
  | nil => intro i c h; simp at h
  | cons d cs ih =>
    intro i c h
    cases i with
    | zero => simp at h; subst h; rfl
    | succ i =>
      have e : (i + 1) * 2 = i * 2 + 1 + 1 := by omega
      rw [e]; simp only [flat_cons, List.getElem?_cons_succ]
      exact ih i c (by simpa using h)
theorem flat_get1 : ∀ (cs : List (Int × Int)) (i : Nat) (c : Int × Int), cs[i]? = some c → (flat cs)[i * 2 + 1]? = some (.int .i64 c.2) := by
  intro cs
  induction cs with
  | nil => intro i c h; simp at h
  | cons d cs ih =>
    intro i c h
    cases i with
    | zero => simp at h; subst h; rfl
    | succ i =>
      have e : (i + 1) * 2 + 1 = i * 2 + 1 + 1 + 1 := by omega
      rw [e]; simp only [flat_cons, List.getElem?_cons_succ]
      exact ih i c (by simpa using h)
theorem flat_one (cs : List (Int × Int)) : ∀ v ∈ flat cs, v.oneCell' = true := by
  intro v hv
  simp only [flat, List.mem_flatMap, catCells] at hv
  obtain ⟨c, _, hc⟩ := hv
  simp at hc
  rcases hc with rfl | rfl <;> rfl
theorem flat_set : ∀ (cs : List (Int × Int)) (i : Nat) (c : Int × Int), ((flat cs).set (i * 2) (.int .u64 c.1)).set (i * 2 + 1) (.int .i64 c.2) = flat (cs.set i c) := by
  intro cs
  induction cs with
  | nil => intro i c; simp
  | cons d cs ih =>
    intro i c
    cases i with
    | zero => simp
    | succ i =>
      have e : (i + 1) * 2 = i * 2 + 1 + 1 := by omega
      rw [e]; simp only [flat_cons, List.set_cons_succ, ih i c]

/-- A block of categories, whatever stands behind them. -/
def Row (w : World) (g : Nat) (cs : List (Int × Int)) (tl : List Value) : Prop := Blk w g 32 (flat cs ++ tl).toArray

section
variable {w w' : World} {g : Nat} {cs : List (Int × Int)} {tl : List Value}
theorem Row.lt (h : Row w g cs tl) : g < w.heap.size := Blk.lt h
theorem Row.cell0 (h : Row w g cs tl) {i : Nat} {c : Int × Int} (hi : cs[i]? = some c) : w.cell? ⟨g, i * 2, none⟩ = some (.int .u64 c.1) := by
  rw [Blk.cell h]
  have := flat_get0 cs i c hi
  have hl : i * 2 < (flat cs).length := (List.getElem?_eq_some_iff.1 this).1
  simp only [List.getElem?_toArray]
  rw [List.getElem?_append_left hl, this]
theorem Row.cell1 (h : Row w g cs tl) {i : Nat} {c : Int × Int} (hi : cs[i]? = some c) : w.cell? ⟨g, i * 2 + 1, none⟩ = some (.int .i64 c.2) := by
  rw [Blk.cell h]
  have := flat_get1 cs i c hi
  have hl : i * 2 + 1 < (flat cs).length := (List.getElem?_eq_some_iff.1 this).1
  simp only [List.getElem?_toArray]
  rw [List.getElem?_append_left hl, this]
theorem Row.free (h : Row w g cs tl) (i : Nat) : w.frozen? ⟨g, i, none⟩ = false := Blk.frozen h i
theorem Row.drew (h : Row w g cs tl) : Row w.drew g cs tl := Blk.drew h
theorem Row.drewN (h : Row w g cs tl) (n : Nat) : Row (w.drewN n) g cs tl := Blk.drewN h n
theorem Row.alloc (h : Row w g cs tl) (o : Obj) : Row (w.alloc o) g cs tl := Blk.alloc h o
theorem Row.far (h : Row w g cs tl) {p : Addr} (hp : g ≠ p.block) (u : Value) : Row (w.setCell p u) g cs tl := Blk.far h hp u
theorem Row.below {B : Nat} (h : Row w g cs tl) (hb : Below B w w') (hg : g < B) : Row w' g cs tl := Blk.below h hb hg
theorem Row.grown {row : Option Nat} (h : Row w g cs tl) (hb : w.grownBy w' row) (hg : some g ≠ row) : Row w' g cs tl := Blk.grown h hb hg

theorem set_append_left' (l r : List Value) (i : Nat) (v : Value) (h : i < l.length) : (l ++ r).set i v = l.set i v ++ r := by
  rw [List.set_append_left _ _ h]

/-- A category is stored. -/
theorem Row.put (h : Row w g cs tl) {i : Nat} (hi : i < cs.length) (c : Int × Int) :
    Row ((w.setCell ⟨g, i * 2, none⟩ (.int .u64 c.1)).setCell ⟨g, i * 2 + 1, none⟩ (.int .i64 c.2)) g (cs.set i c) tl := by
  have h2 := (Blk.set_ (Blk.set_ h (i * 2) (.int .u64 c.1)) (i * 2 + 1) (.int .i64 c.2))
  unfold Row
  have e : (((flat cs ++ tl).toArray.setIfInBounds (i * 2) (.int .u64 c.1)).setIfInBounds (i * 2 + 1) (.int .i64 c.2)) = (flat (cs.set i c) ++ tl).toArray := by
    rw [← flat_set]
    simp only [List.setIfInBounds_toArray]
    rw [set_append_left' _ _ _ _ (by simp; omega), set_append_left' _ _ _ _ (by simp; omega)]
  rw [← e]
  exact h2
end

/-- Two stand in one another's place. -/
def swapL (cs : List (Int × Int)) (i j : Nat) : List (Int × Int) := (cs.set i (cs.getD j (0, 0))).set j (cs.getD i (0, 0))
@[simp] theorem swapL_length (cs : List (Int × Int)) (i j : Nat) : (swapL cs i j).length = cs.length := by simp [swapL]

theorem getD_some (cs : List (Int × Int)) {i : Nat} (h : i < cs.length) : cs[i]? = some (cs.getD i (0, 0)) := by
  rw [List.getD_eq_getElem?_getD, List.getElem?_eq_getElem h]; rfl

theorem only_drewN {a w : World} {row : Option Nat} (h : a.grownBy w row) (n : Nat) : a.grownBy (w.drewN n) row := ⟨h.os, h.tape, h.output, h.size, h.block⟩
theorem only_drew {a w : World} {row : Option Nat} (h : a.grownBy w row) : a.grownBy w.drew row := ⟨h.os, h.tape, h.output, h.size, h.block⟩
theorem only_alloc {a w : World} {row : Option Nat} (h : a.grownBy w row) (o : Obj) : a.grownBy (w.alloc o) row :=
  ⟨h.os, h.tape, h.output, Nat.le_trans h.size (by simp), fun i hi hne => (Below.heap_alloc w o i (Nat.lt_of_lt_of_le hi h.size)).trans (h.block i hi hne)⟩
theorem only_setCell {a w : World} {g : Nat} (h : a.grownBy w (some g)) {p : Addr} (hp : p.block = g ∨ a.heap.size ≤ p.block) (u : Value) : a.grownBy (w.setCell p u) (some g) :=
  ⟨h.os, h.tape, h.output, by simpa [World.setCell] using h.size, fun i hi hne => (Below.heap_setCell w p u i (by
    rintro rfl
    rcases hp with hp | hp
    · exact hne (by rw [hp])
    · omega)).trans (h.block i hi hne)⟩
theorem only_of_below {a w : World} (h : Below a.heap.size a w) (row : Option Nat) : a.grownBy w row := ⟨h.os, h.tape, h.output, h.size, fun i hi _ => h.block i hi⟩
theorem only_refl (a : World) (row : Option Nat) : a.grownBy a row := ⟨rfl, rfl, rfl, Nat.le_refl _, fun _ _ _ => rfl⟩
theorem only_trans {a b c : World} {row : Option Nat} (h : a.grownBy b row) (k : b.grownBy c row) : a.grownBy c row :=
  ⟨k.os.trans h.os, k.tape.trans h.tape, k.output.trans h.output, Nat.le_trans h.size k.size, fun i hi hne => (k.block i (Nat.lt_of_lt_of_le hi h.size) hne).trans (h.block i hi hne)⟩
theorem only_below {a b c : World} {row : Option Nat} (h : a.grownBy b row) (k : Below b.heap.size b c) : a.grownBy c row := only_trans h (only_of_below k row)

/-- All that a walk wants at 'data[i], data[j] = data[j], data[i]'. -/
theorem Row.swapFacts {w0 w : World} {g : Nat} {cs : List (Int × Int)} {tl : List Value} (h : Row w g cs tl) (hg : w0.grownBy w (some g)) {i j : Nat} {x y : Int × Int} (hi : cs[i]? = some x) (hj : cs[j]? = some y) :
    ∃ z : Int × Int,
      (w.cell? ⟨g, i * 2, none⟩ = some (.int .u64 x.1) ∧ w.cell? ⟨g, i * 2 + 1, none⟩ = some (.int .i64 x.2) ∧ w.cell? ⟨g, j * 2, none⟩ = some (.int .u64 y.1) ∧ w.cell? ⟨g, j * 2 + 1, none⟩ = some (.int .i64 y.2)) ∧
      (w.frozen? ⟨g, i * 2, none⟩ = false ∧ w.frozen? ⟨g, i * 2 + 1, none⟩ = false) ∧
      (((w.setCell ⟨g, i * 2, none⟩ (.int .u64 y.1)).setCell ⟨g, i * 2 + 1, none⟩ (.int .i64 y.2)).cell? ⟨g, j * 2, none⟩ = some (.int .u64 z.1) ∧
       ((w.setCell ⟨g, i * 2, none⟩ (.int .u64 y.1)).setCell ⟨g, i * 2 + 1, none⟩ (.int .i64 y.2)).cell? ⟨g, j * 2 + 1, none⟩ = some (.int .i64 z.2) ∧
       ((w.setCell ⟨g, i * 2, none⟩ (.int .u64 y.1)).setCell ⟨g, i * 2 + 1, none⟩ (.int .i64 y.2)).frozen? ⟨g, j * 2, none⟩ = false ∧
       ((w.setCell ⟨g, i * 2, none⟩ (.int .u64 y.1)).setCell ⟨g, i * 2 + 1, none⟩ (.int .i64 y.2)).frozen? ⟨g, j * 2 + 1, none⟩ = false) ∧
      Hid (Row ((((w.setCell ⟨g, i * 2, none⟩ (.int .u64 y.1)).setCell ⟨g, i * 2 + 1, none⟩ (.int .i64 y.2)).setCell ⟨g, j * 2, none⟩ (.int .u64 x.1)).setCell ⟨g, j * 2 + 1, none⟩ (.int .i64 x.2)) g ((cs.set i y).set j x) tl) ∧
      Hid (w0.grownBy ((((w.setCell ⟨g, i * 2, none⟩ (.int .u64 y.1)).setCell ⟨g, i * 2 + 1, none⟩ (.int .i64 y.2)).setCell ⟨g, j * 2, none⟩ (.int .u64 x.1)).setCell ⟨g, j * 2 + 1, none⟩ (.int .i64 x.2)) (some g)) := by
  have li : i < cs.length := (List.getElem?_eq_some_iff.1 hi).1
  have lj : j < cs.length := (List.getElem?_eq_some_iff.1 hj).1
  have h2 := h.put (i := i) li y
  have lz : j < (cs.set i y).length := by rw [List.length_set]; exact lj
  have hz := getD_some _ lz
  refine ⟨(cs.set i y).getD j (0, 0), ⟨h.cell0 hi, h.cell1 hi, h.cell0 hj, h.cell1 hj⟩, ⟨h.free _, h.free _⟩, ⟨h2.cell0 hz, h2.cell1 hz, h2.free _, h2.free _⟩, h2.put lz x, ?_⟩
  exact only_setCell (only_setCell (only_setCell (only_setCell hg (p := ⟨g, i * 2, none⟩) (.inl rfl) (.int .u64 y.1)) (p := ⟨g, i * 2 + 1, none⟩) (.inl rfl) (.int .i64 y.2)) (p := ⟨g, j * 2, none⟩) (.inl rfl) (.int .u64 x.1)) (p := ⟨g, j * 2 + 1, none⟩) (.inl rfl) (.int .i64 x.2)

end Go.Proofs.Ytndohmimcbmhdaa
