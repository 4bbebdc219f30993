/- Categories in memory: two cells each; a block that is a row of them. -/
import Derived.Test.YtndohmimcbmhdaaMz0
import Derived.Test.YtndohmimcbmhdaaProg
import Derived.BigRegion
import Derived.Shelf.SlSortCmp.QuietGrown
set_option linter.unusedVariables false
set_option linter.unusedSimpArgs false
namespace Go.Proofs.Ytndohmimcbmhdaa
open Go.RowKit

/-- A category's two cells. -/
def catCells (c : Int × Int) : List Value := [.int .u64 c.1, .int .i64 c.2]
def flat (cs : List (Int × Int)) : List Value := cs.flatMap catCells

@[simp] theorem flat_nil : flat [] = [] := rfl
@[simp] theorem flat_cons (c : Int × Int) (cs : List (Int × Int)) : flat (c :: cs) = .int .u64 c.1 :: .int .i64 c.2 :: flat cs := rfl
theorem flat_append (cs ds : List (Int × Int)) : flat (cs ++ ds) = flat cs ++ flat ds := by simp [flat]
@[simp] theorem flat_length (cs : List (Int × Int)) : (flat cs).length = cs.length * 2 := by
  induction cs with
  | nil => rfl
  | cons c cs ih => simp [ih]; omega
theorem flat_get0 : ∀ (cs : List (Int × Int)) (i : Nat) (c : Int × Int), cs[i]? = some c → (flat cs)[i * 2]? = some (.int .u64 c.1) := by
  intro cs
  induction cs with
  | nil => intro i c h; simp at h
  | cons d cs ih =>
    intro i c h
    cases i with
    | zero => simp at h; subst h; rfl
    | succ i =>
      have e : (i + 1) * 2 = i * 2 + 1 + 1 := by omega
      rw [e]; simp only [flat_cons, List.getElem?_cons_succ]
      exact ih i c (by simpa using h)
theorem flat_get1 : ∀ (cs : List (Int × Int)) (i : Nat) (c : Int × Int), cs[i]? = some c → (flat cs)[i * 2 + 1]? = some (.int .i64 c.2) := by
  intro cs
  induction cs with
  | nil => intro i c h; simp at h
  | cons d cs ih =>
    intro i c h
    cases i with
    | zero => simp at h; subst h; rfl
    | succ i =>
      have e : (i + 1) * 2 + 1 = i * 2 + 1 + 1 + 1 := by omega
      rw [e]; simp only [flat_cons, List.getElem?_cons_succ]
      exact ih i c (by simpa using h)
theorem flat_one (cs : List (Int × Int)) : ∀ v ∈ flat cs, v.oneCell' = true := by
  intro v hv
  simp only [flat, List.mem_flatMap, catCells] at hv
  obtain ⟨c, _, hc⟩ := hv
  simp at hc
  rcases hc with rfl | rfl <;> rfl
theorem flat_set : ∀ (cs : List (Int × Int)) (i : Nat) (c : Int × Int), ((flat cs).set (i * 2) (.int .u64 c.1)).set (i * 2 + 1) (.int .i64 c.2) = flat (cs.set i c) := by
  intro cs
  induction cs with
  | nil => intro i c; simp
  | cons d cs ih =>
    intro i c
    cases i with
    | zero => simp
    | succ i =>
      have e : (i + 1) * 2 = i * 2 + 1 + 1 := by omega
      rw [e]; simp only [flat_cons, List.set_cons_succ, ih i c]

/-- A block of categories, whatever stands behind them. -/
def Row (w : World) (g : Nat) (cs : List (Int × Int)) (tl : List Value) : Prop := Blk w g 32 (flat cs ++ tl).toArray

section
variable {w w' : World} {g : Nat} {cs : List (Int × Int)} {tl : List Value}
theorem Row.lt (h : Row w g cs tl) : g < w.heap.size := Blk.lt h
theorem Row.cell0 (h : Row w g cs tl) {i : Nat} {c : Int × Int} (hi : cs[i]? = some c) : w.cell? ⟨g, i * 2, none⟩ = some (.int .u64 c.1) := by
  rw [Blk.cell h]
  have := flat_get0 cs i c hi
  have hl : i * 2 < (flat cs).length := (List.getElem?_eq_some_iff.1 this).1
  simp only [List.getElem?_toArray]
  rw [List.getElem?_append_left hl, this]
theorem Row.cell1 (h : Row w g cs tl) {i : Nat} {c : Int × Int} (hi : cs[i]? = some c) : w.cell? ⟨g, i * 2 + 1, none⟩ = some (.int .i64 c.2) := by
  rw [Blk.cell h]
  have := flat_get1 cs i c hi
  have hl : i * 2 + 1 < (flat cs).length := (List.getElem?_eq_some_iff.1 this).1
  simp only [List.getElem?_toArray]
  rw [List.getElem?_append_left hl, this]
theorem Row.free (h : Row w g cs tl) (i : Nat) : w.frozen? ⟨g, i, none⟩ = false := Blk.frozen h i
theorem Row.drew (h : Row w g cs tl) : Row w.drew g cs tl := Blk.drew h
theorem Row.drewN (h : Row w g cs tl) (n : Nat) : Row (w.drewN n) g cs tl := Blk.drewN h n
theorem Row.alloc (h : Row w g cs tl) (o : Obj) : Row (w.alloc o) g cs tl := Blk.alloc h o
theorem Row.far (h : Row w g cs tl) {p : Addr} (hp : g ≠ p.block) (u : Value) : Row (w.setCell p u) g cs tl := Blk.far h hp u
theorem Row.below {B : Nat} (h : Row w g cs tl) (hb : Below B w w') (hg : g < B) : Row w' g cs tl := Blk.below h hb hg
theorem Row.grown {row : Option Nat} (h : Row w g cs tl) (hb : w.grownBy w' row) (hg : some g ≠ row) : Row w' g cs tl := Blk.grown h hb hg

theorem set_append_left' (l r : List Value) (i : Nat) (v : Value) (h : i < l.length) : (l ++ r).set i v = l.set i v ++ r := by
  rw [List.set_append_left _ _ h]

/-- A category is stored. -/
theorem Row.put (h : Row w g cs tl) {i : Nat} (hi : i < cs.length) (c : Int × Int) :
    Row ((w.setCell ⟨g, i * 2, none⟩ (.int .u64 c.1)).setCell ⟨g, i * 2 + 1, none⟩ (.int .i64 c.2)) g (cs.set i c) tl := by
  have h2 := (Blk.set_ (Blk.set_ h (i * 2) (.int .u64 c.1)) (i * 2 + 1) (.int .i64 c.2))
  unfold Row
  have e : (((flat cs ++ tl).toArray.setIfInBounds (i * 2) (.int .u64 c.1)).setIfInBounds (i * 2 + 1) (.int .i64 c.2)) = (flat (cs.set i c) ++ tl).toArray := by
    rw [← flat_set]
    simp only [List.setIfInBounds_toArray]
    rw [set_append_left' _ _ _ _ (by simp; omega), set_append_left' _ _ _ _ (by simp; omega)]
  rw [← e]
  exact h2
end

/-- Two stand in one another's place. -/
def swapL (cs : List (Int × Int)) (i j : Nat) : List (Int × Int) := (cs.set i (cs.getD j (0, 0))).set j (cs.getD i (0, 0))
@[simp] theorem swapL_length (cs : List (Int × Int)) (i j : Nat) : (swapL cs i j).length = cs.length := by simp [swapL]

theorem getD_some (cs : List (Int × Int)) {i : Nat} (h : i < cs.length) : cs[i]? = some (cs.getD i (0, 0)) := by
  rw [List.getD_eq_getElem?_getD, List.getElem?_eq_getElem h]; rfl

theorem only_drewN {a w : World} {row : Option Nat} (h : a.grownBy w row) (n : Nat) : a.grownBy (w.drewN n) row := ⟨h.os, h.tape, h.output, h.size, h.block⟩
theorem only_drew {a w : World} {row : Option Nat} (h : a.grownBy w row) : a.grownBy w.drew row := ⟨h.os, h.tape, h.output, h.size, h.block⟩
theorem only_alloc {a w : World} {row : Option Nat} (h : a.grownBy w row) (o : Obj) : a.grownBy (w.alloc o) row :=
  ⟨h.os, h.tape, h.output, Nat.le_trans h.size (by simp), fun i hi hne => (Below.heap_alloc w o i (Nat.lt_of_lt_of_le hi h.size)).trans (h.block i hi hne)⟩
theorem only_setCell {a w : World} {g : Nat} (h : a.grownBy w (some g)) {p : Addr} (hp : p.block = g ∨ a.heap.size ≤ p.block) (u : Value) : a.grownBy (w.setCell p u) (some g) :=
  ⟨h.os, h.tape, h.output, by simpa [World.setCell] using h.size, fun i hi hne => (Below.heap_setCell w p u i (by
    rintro rfl
    rcases hp with hp | hp
    · exact hne (by rw [hp])
    · omega)).trans (h.block i hi hne)⟩
theorem only_of_below {a w : World} (h : Below a.heap.size a w) (row : Option Nat) : a.grownBy w row := ⟨h.os, h.tape, h.output, h.size, fun i hi _ => h.block i hi⟩
theorem only_refl (a : World) (row : Option Nat) : a.grownBy a row := ⟨rfl, rfl, rfl, Nat.le_refl _, fun _ _ _ => rfl⟩
theorem only_trans {a b c : World} {row : Option Nat} (h : a.grownBy b row) (k : b.grownBy c row) : a.grownBy c row :=
  ⟨k.os.trans h.os, k.tape.trans h.tape, k.output.trans h.output, Nat.le_trans h.size k.size, fun i hi hne => (k.block i (Nat.lt_of_lt_of_le hi h.size) hne).trans (h.block i hi hne)⟩
theorem only_below {a b c : World} {row : Option Nat} (h : a.grownBy b row) (k : Below b.heap.size b c) : a.grownBy c row := only_trans h (only_of_below k row)

/-- All that a walk wants at 'data[i], data[j] = data[j], data[i]'. -/
theorem Row.swapFacts {w0 w : World} {g : Nat} {cs : List (Int × Int)} {tl : List Value} (h : Row w g cs tl) (hg : w0.grownBy w (some g)) {i j : Nat} {x y : Int × Int} (hi : cs[i]? = some x) (hj : cs[j]? = some y) :
    ∃ z : Int × Int,
      (w.cell? ⟨g, i * 2, none⟩ = some (.int .u64 x.1) ∧ w.cell? ⟨g, i * 2 + 1, none⟩ = some (.int .i64 x.2) ∧ w.cell? ⟨g, j * 2, none⟩ = some (.int .u64 y.1) ∧ w.cell? ⟨g, j * 2 + 1, none⟩ = some (.int .i64 y.2)) ∧
      (w.frozen? ⟨g, i * 2, none⟩ = false ∧ w.frozen? ⟨g, i * 2 + 1, none⟩ = false) ∧
      (((w.setCell ⟨g, i * 2, none⟩ (.int .u64 y.1)).setCell ⟨g, i * 2 + 1, none⟩ (.int .i64 y.2)).cell? ⟨g, j * 2, none⟩ = some (.int .u64 z.1) ∧
       ((w.setCell ⟨g, i * 2, none⟩ (.int .u64 y.1)).setCell ⟨g, i * 2 + 1, none⟩ (.int .i64 y.2)).cell? ⟨g, j * 2 + 1, none⟩ = some (.int .i64 z.2) ∧
       ((w.setCell ⟨g, i * 2, none⟩ (.int .u64 y.1)).setCell ⟨g, i * 2 + 1, none⟩ (.int .i64 y.2)).frozen? ⟨g, j * 2, none⟩ = false ∧
       ((w.setCell ⟨g, i * 2, none⟩ (.int .u64 y.1)).setCell ⟨g, i * 2 + 1, none⟩ (.int .i64 y.2)).frozen? ⟨g, j * 2 + 1, none⟩ = false) ∧
      Hid (Row ((((w.setCell ⟨g, i * 2, none⟩ (.int .u64 y.1)).setCell ⟨g, i * 2 + 1, none⟩ (.int .i64 y.2)).setCell ⟨g, j * 2, none⟩ (.int .u64 x.1)).setCell ⟨g, j * 2 + 1, none⟩ (.int .i64 x.2)) g ((cs.set i y).set j x) tl) ∧
      Hid (w0.grownBy ((((w.setCell ⟨g, i * 2, none⟩ (.int .u64 y.1)).setCell ⟨g, i * 2 + 1, none⟩ (.int .i64 y.2)).setCell ⟨g, j * 2, none⟩ (.int .u64 x.1)).setCell ⟨g, j * 2 + 1, none⟩ (.int .i64 x.2)) (some g)) := by
  have li : i < cs.length := (List.getElem?_eq_some_iff.1 hi).1
  have lj : j < cs.length := (List.getElem?_eq_some_iff.1 hj).1
  have h2 := h.put (i := i) li y
  have lz : j < (cs.set i y).length := by rw [List.length_set]; exact lj
  have hz := getD_some _ lz
  refine ⟨(cs.set i y).getD j (0, 0), ⟨h.cell0 hi, h.cell1 hi, h.cell0 hj, h.cell1 hj⟩, ⟨h.free _, h.free _⟩, ⟨h2.cell0 hz, h2.cell1 hz, h2.free _, h2.free _⟩, h2.put lz x, ?_⟩
  exact only_setCell (only_setCell (only_setCell (only_setCell hg (p := ⟨g, i * 2, none⟩) (.inl rfl) (.int .u64 y.1)) (p := ⟨g, i * 2 + 1, none⟩) (.inl rfl) (.int .i64 y.2)) (p := ⟨g, j * 2, none⟩) (.inl rfl) (.int .u64 x.1)) (p := ⟨g, j * 2 + 1, none⟩) (.inl rfl) (.int .i64 x.2)

end Go.Proofs.Ytndohmimcbmhdaa

/- The comparisons and tests that label hands to the library's functions on slices. -/
set_option linter.unusedVariables false
set_option linter.unusedSimpArgs false
namespace Go.Proofs.Ytndohmimcbmhdaa
open Go.RowKit Go.Sort

theorem grown_below {w : World} (n : Nat) (os : Array Obj) : Below w.heap.size w (grow (w.drewN n) os) :=
  ⟨rfl, rfl, rfl, by rw [size_grow]; exact Nat.le_add_right _ _, fun k hk => heap_grow_old (w.drewN n) os hk⟩
theorem Row.grow {w : World} {g : Nat} {cs : List (Int × Int)} {tl : List Value} (h : Row w g cs tl) (n : Nat) (os : Array Obj) : Row (grow (w.drewN n) os) g cs tl :=
  h.below (grown_below n os) h.lt

/-- What comparing two categories answers. -/
def cmpI (a b : Int) : Int := if a < b then -1 else if b < a then 1 else 0

theorem cmpI_neg {a b : Int} : cmpI a b < 0 ↔ a < b := by unfold cmpI; split <;> (try split) <;> omega

set_option maxHeartbeats 400000 in
theorem isNaN149 (a : Int) (w : World) : Calls Try.prog 149 #[.int .u64 a] w fun e w' => e = .returned (.bool false) ∧ w = w' := by
  have h : (a != a) = false := by simp
  go_enter Try.func149, Try.ntmps149
  go_wp2_with fail
  go_ret
  exact ⟨rfl, rfl⟩

set_option maxHeartbeats 400000 in
theorem compare95 (a b : Int) (w : World) : Calls Try.prog 95 #[.int .u64 a, .int .u64 b] w fun e w' => e = .returned (.int .i64 (cmpI a b)) ∧ w = w' := by
  by_cases h1 : a < b
  · have H : Hid (cmpI a b = -1) := by show cmpI a b = _; simp [cmpI, h1]
    go_enter Try.func95, Try.ntmps95
    go_wp2_with (go_at_call 149; refine (isNaN149 _ _).mono ?_; rintro e w' ⟨rfl, rfl⟩)
    go_ret
    exact ⟨by rw [H.out]; rfl, rfl⟩
  · by_cases h2 : b < a
    · have H : Hid (cmpI a b = 1) := by show cmpI a b = _; simp [cmpI, h1, h2]
      go_enter Try.func95, Try.ntmps95
      go_wp2_with (go_at_call 149; refine (isNaN149 _ _).mono ?_; rintro e w' ⟨rfl, rfl⟩)
      go_ret
      exact ⟨by rw [H.out]; rfl, rfl⟩
    · have H : Hid (cmpI a b = 0) := by show cmpI a b = _; simp [cmpI, h1, h2]
      go_enter Try.func95, Try.ntmps95
      go_wp2_with (go_at_call 149; refine (isNaN149 _ _).mono ?_; rintro e w' ⟨rfl, rfl⟩)
      go_ret
      exact ⟨by rw [H.out]; rfl, rfl⟩

set_option maxHeartbeats 400000 in
theorem cmp94 (a b : Int × Int) (w : World) : Calls Try.prog 94 #[.agg #[.int .u64 a.1, .int .i64 a.2], .agg #[.int .u64 b.1, .int .i64 b.2]] w fun e w' => e = .returned (.int .i64 (cmpI a.1 b.1)) ∧ ∃ q os, w' = grow (w.drewN q) os := by
  go_enter Try.func94, Try.ntmps94
  go_wp2_with (go_at_call 95; refine (compare95 _ _ _).mono ?_; rintro e w' ⟨rfl, rfl⟩)
  go_ret
  exact ⟨rfl, 0, _, by rw [alloc_eq_grow, alloc_eq_grow, grow_grow]; rfl⟩

set_option maxHeartbeats 400000 in
theorem same97 (a b : Int × Int) (w : World) : Calls Try.prog 97 #[.agg #[.int .u64 a.1, .int .i64 a.2], .agg #[.int .u64 b.1, .int .i64 b.2]] w fun e w' => e = .returned (.bool (a.1 == b.1)) ∧ ∃ q os, w' = grow (w.drewN q) os := by
  go_enter Try.func97, Try.ntmps97
  go_wp2_with fail
  go_ret
  exact ⟨rfl, 0, _, by rw [alloc_eq_grow, alloc_eq_grow, grow_grow]; rfl⟩

set_option maxHeartbeats 400000 in
theorem isDef99 (a : Int × Int) (p : Addr) (d : Int) (w : World) (hp : p.block < w.heap.size) (hd : w.cell? p = some (.int .i64 d)) : Calls Try.prog 99 #[.agg #[.int .u64 a.1, .int .i64 a.2], .pointer (some p)] w fun e w' => e = .returned (.bool (a.2 == d)) ∧ ∃ q os, w' = grow (w.drewN q) os := by
  have hd' : ∀ o, (w.alloc o).cell? p = some (.int .i64 d) := fun o => by rw [World.cell?_alloc_lt w o p hp]; exact hd
  go_enter Try.func99, Try.ntmps99
  go_wp2_with fail
  go_ret
  exact ⟨rfl, 0, _, by rw [alloc_eq_grow]; rfl⟩

end Go.Proofs.Ytndohmimcbmhdaa

/- Slices of categories that are read: a search by a test, whether one meets a test, a copy. -/
set_option linter.unusedVariables false
set_option linter.unusedSimpArgs false
namespace Go.Proofs.Ytndohmimcbmhdaa
open Go.RowKit

/-- A slice value that reads as cs, below block B. -/
structure CatsAt (w : World) (B : Nat) (A : Option Addr) (n c : Nat) (cs : List (Int × Int)) : Prop where
  len : cs.length = n
  cap : n ≤ c
  max : c ≤ maxLen
  cells : 0 < n → ∃ b off, A = some ⟨b, off, none⟩ ∧ b < B ∧ ∀ i x, cs[i]? = some x → w.cell? ⟨b, off + i * 2, none⟩ = some (.int .u64 x.1) ∧ w.cell? ⟨b, off + i * 2 + 1, none⟩ = some (.int .i64 x.2)

section
variable {w w' : World} {B B' : Nat} {A : Option Addr} {n c : Nat} {cs : List (Int × Int)}
theorem CatsAt.below (h : CatsAt w B A n c cs) (hb : Below B w w') : CatsAt w' B A n c cs :=
  ⟨h.len, h.cap, h.max, fun hn => by
    obtain ⟨b, off, e, hB, hc⟩ := h.cells hn
    exact ⟨b, off, e, hB, fun i x hx => ⟨(hb.cell (p := ⟨b, off + i * 2, none⟩) hB).trans (hc i x hx).1, (hb.cell (p := ⟨b, off + i * 2 + 1, none⟩) hB).trans (hc i x hx).2⟩⟩⟩
theorem CatsAt.more (h : CatsAt w B A n c cs) (hB : B ≤ B') : CatsAt w B' A n c cs :=
  ⟨h.len, h.cap, h.max, fun hn => by
    obtain ⟨b, off, e, hb, hc⟩ := h.cells hn
    exact ⟨b, off, e, by omega, hc⟩⟩
theorem CatsAt.nil_ : CatsAt w B none 0 0 [] := ⟨rfl, Nat.le_refl _, by simp [maxLen], fun h => absurd h (by omega)⟩
theorem CatsAt.of_row {g : Nat} {tl : List Value} (h : Row w g cs tl) (hc : cs.length ≤ c) (hm : c ≤ maxLen) : CatsAt w w.heap.size (some ⟨g, 0, none⟩) cs.length c cs :=
  ⟨rfl, hc, hm, fun _ => ⟨g, 0, rfl, h.lt, fun i x hx => by simp only [Nat.zero_add]; exact ⟨h.cell0 hx, h.cell1 hx⟩⟩⟩
theorem CatsAt.reads (h : CatsAt w B A n c cs) : Reads w B 2 A n (flat cs) := by
  refine ⟨by rw [flat_length, h.len], fun hn => ?_⟩
  obtain ⟨b, off, e, hb, hc⟩ := h.cells hn
  refine ⟨⟨b, off, none⟩, e, hb, fun j u hu => ?_⟩
  have hj : j < cs.length * 2 := by rw [← flat_length]; exact (List.getElem?_eq_some_iff.1 hu).1
  have hi : j / 2 < cs.length := by omega
  have hx := List.getElem?_eq_getElem hi
  have ha : (⟨b, off, none⟩ : Addr).add j = ⟨b, off + j, none⟩ := by unfold Addr.add; split <;> simp_all
  rw [ha]
  by_cases hp : j % 2 = 0
  · have e : j = j / 2 * 2 := by omega
    have e0 := flat_get0 cs _ _ hx
    rw [← e, hu] at e0
    have := (hc _ _ hx).1
    rw [← e] at this
    rw [this]; exact e0.symm
  · have e : j = j / 2 * 2 + 1 := by omega
    have e0 := flat_get1 cs _ _ hx
    rw [← e, hu] at e0
    have := (hc _ _ hx).2
    rw [show off + j / 2 * 2 + 1 = off + (j / 2 * 2 + 1) by omega, ← e] at this
    rw [this]; exact e0.symm
theorem CatsAt.at_ (h : CatsAt w B A n c cs) {k : Nat} (hk : k < n) : ∃ b off x, A = some ⟨b, off, none⟩ ∧ b < B ∧ cs[k]? = some x ∧ w.cell? ⟨b, off + k * 2, none⟩ = some (.int .u64 x.1) ∧ w.cell? ⟨b, off + k * 2 + 1, none⟩ = some (.int .i64 x.2) := by
  obtain ⟨b, off, e, hb, hc⟩ := h.cells (by omega)
  have hx := List.getElem?_eq_getElem (l := cs) (i := k) (by have := h.len; omega)
  exact ⟨b, off, _, e, hb, hx, hc _ _ hx⟩
end

/-- What a test that the library is handed must do, from w on: answer p, and leave all that lay in w. -/
def TestOk (fn : Nat) (cb : Array Value) (p : Int × Int → Bool) (w : World) : Prop :=
  ∀ W, Below w.heap.size w W → ∀ x : Int × Int, Calls Try.prog fn (#[.agg #[.int .u64 x.1, .int .i64 x.2]] ++ cb) W fun e w' => e = .returned (.bool (p x)) ∧ Below w.heap.size w w'

def idxOf (p : Int × Int → Bool) (cs : List (Int × Int)) : Int := match cs.findIdx? p with | some i => (i : Int) | none => -1

theorem idxOf_hit {p : Int × Int → Bool} {cs : List (Int × Int)} {k : Nat} {x : Int × Int} (hx : cs[k]? = some x) (hp : p x = true) (hno : ∀ j y, j < k → cs[j]? = some y → p y = false) : idxOf p cs = (k : Int) := by
  unfold idxOf
  have : cs.findIdx? p = some k := by
    rw [List.findIdx?_eq_some_iff_getElem]
    obtain ⟨hk, rfl⟩ := List.getElem?_eq_some_iff.1 hx
    exact ⟨hk, hp, fun j hj => by rw [hno j _ hj (List.getElem?_eq_getElem (by omega))]; exact Bool.false_ne_true⟩
  rw [this]
theorem idxOf_miss {p : Int × Int → Bool} {cs : List (Int × Int)} (hno : ∀ (j : Nat) (y : Int × Int), cs[j]? = some y → p y = false) : idxOf p cs = -1 := by
  unfold idxOf
  have : cs.findIdx? p = none := by
    rw [List.findIdx?_eq_none_iff]
    intro x hx
    obtain ⟨k, hk, rfl⟩ := List.getElem_of_mem hx
    exact hno k _ (List.getElem?_eq_getElem hk)
  rw [this]
theorem idxOf_nonneg (p : Int × Int → Bool) (cs : List (Int × Int)) : decide (0 ≤ idxOf p cs) = cs.any p := by
  unfold idxOf
  cases h : cs.findIdx? p with
  | none =>
    rw [List.findIdx?_eq_none_iff] at h
    have : cs.any p = false := by rw [List.any_eq_false]; intro x hx; rw [h x hx]; exact Bool.false_ne_true
    rw [this]; rfl
  | some k =>
    obtain ⟨hk, hp, _⟩ := List.findIdx?_eq_some_iff_getElem.1 h
    have : cs.any p = true := List.any_eq_true.2 ⟨_, List.getElem_mem hk, hp⟩
    rw [this]; simp

theorem ret_i64 {a b : Int} (h : a = b) : Ending.returned (.int .i64 a) = Ending.returned (.int .i64 b) := by rw [h]
theorem ret_u64 {a b : Int} (h : a = b) : Ending.returned (.int .u64 a) = Ending.returned (.int .u64 b) := by rw [h]
theorem ret_bool {a b : Bool} (h : a = b) : Ending.returned (.bool a) = Ending.returned (.bool b) := by rw [h]

set_option maxHeartbeats 1000000 in
theorem indexFunc150 (w : World) (A : Option Addr) (n c : Nat) (cs : List (Int × Int)) (fn : Nat) (cb : Array Value) (p : Int × Int → Bool) (h : CatsAt w w.heap.size A n c cs) (ht : TestOk fn cb p w) (eg : ∀ args w, (callFunc fn args).run Try.prog w = .ok (.enter fn args) w) :
    Calls Try.prog 150 #[.slice A n c, .func (.func fn) #[] cb] w fun e w' => e = .returned (.int .i64 (idxOf p cs)) ∧ Below w.heap.size w w' := by
  have hm : n ≤ 9223372036854775807 := by have := h.cap; have := h.max; unfold maxLen at this; omega
  have HT : Hid (TestOk fn cb p w) := ht
  have H := hid h
  clear h ht
  go_enter Try.func150, Try.ntmps150
  go_wp2_with fail
  go_loopw [8] (fun vi wr => ∃ k : Nat, k ≤ n ∧ vi = .int .i64 k ∧ Hid (Below w.heap.size w wr) ∧ Hid (∀ j y, j < k → cs[j]? = some y → p y = false)) (fun vi _ => n - (intOf vi).toNat)
  case atStart => exact ⟨0, Nat.zero_le _, rfl, Below.refl _ w, fun j y hj => absurd hj (Nat.not_lt_zero _)⟩
  case round =>
    obtain ⟨k, hk, rfl, BW, AL⟩ := hrel
    by_cases hlt : k < n
    · have hltz : (k : Int) < (n : Int) := by omega
      obtain ⟨b, off, x, rfl, hbB, hx, c0, c1⟩ := (H.out.below BW.out).at_ hlt
      have hcall := HT.out wr BW.out x
      have HX := hid hx
      clear hx
      cases hq : p x with
      | true =>
        rw [hq] at hcall
        have HQ := hid hq
        clear hq
        go_wp2_with (go_at_fn fn; refine hcall.mono ?_; rintro e w' ⟨rfl, hb'⟩)
        go_ret
        exact ⟨ret_i64 (idxOf_hit HX.out HQ.out AL.out).symm, hb'⟩
      | false =>
        rw [hq] at hcall
        have HQ := hid hq
        clear hq
        go_wp2_with (go_at_fn fn; refine hcall.mono ?_; rintro e w' ⟨rfl, hb'⟩)
        go_roundw
        case measure => simp [intOf] <;> omega
        case rel =>
          refine ⟨k + 1, by omega, by go_num, hb', (show Hid _ from fun j y hj hy => ?_)⟩
          by_cases e : j = k
          · subst e
            have := HX.out
            rw [hy] at this; cases this
            exact HQ.out
          · exact AL.out j y (by omega) hy
    · have hltz : ¬ (k : Int) < (n : Int) := by omega
      go_wp2_with fail
      go_ret
      refine ⟨ret_i64 (idxOf_miss fun j y hy => AL.out j y ?_ hy).symm, BW.out⟩
      have := (List.getElem?_eq_some_iff.1 hy).1
      have := H.out.len
      omega

set_option maxHeartbeats 400000 in
theorem containsFunc102 (w : World) (A : Option Addr) (n c : Nat) (cs : List (Int × Int)) (fn : Nat) (cb : Array Value) (p : Int × Int → Bool) (h : CatsAt w w.heap.size A n c cs) (ht : TestOk fn cb p w) (eg : ∀ args w, (callFunc fn args).run Try.prog w = .ok (.enter fn args) w) :
    Calls Try.prog 102 #[.slice A n c, .func (.func fn) #[] cb] w fun e w' => e = .returned (.bool (cs.any p)) ∧ Below w.heap.size w w' := by
  have HC := hid (indexFunc150 w A n c cs fn cb p h ht eg)
  have HE := hid (idxOf_nonneg p cs)
  clear h ht eg
  generalize idxOf p cs = r at *
  go_enter Try.func102, Try.ntmps102
  go_wp2_with fail
  refine HC.out.mono ?_
  rintro e w1 ⟨rfl, hb⟩
  have HB := hid hb
  clear hb HC
  go_wp2_with fail
  go_ret
  exact ⟨ret_bool HE.out, HB.out⟩

theorem cat_info : (Try.prog.info? 32).map (fun i => (i.zero, i.size, i.bytes)) = some (some (.agg #[.int .u64 0, .int .i64 0]), 2, 16) := by kernel_rfl

/-- A slice value of the call's own that holds cs: nil, or a block from base on. -/
def OwnCats (w : World) (base : Nat) (v : Value) (cs : List (Int × Int)) : Prop :=
  (v = .slice none 0 0 ∧ cs = []) ∨
  ∃ g cap tl, v = .slice (some ⟨g, 0, none⟩) cs.length cap ∧ base ≤ g ∧ cs.length ≤ cap ∧ cap ≤ maxLen ∧ Row w g cs tl ∧ (flat cs ++ tl).length = cap * 2

theorem OwnCats.of_own {w : World} {base : Nat} {v : Value} {cs : List (Int × Int)} (h : w.ownsRow base 32 2 v cs.length (flat cs)) : OwnCats w base v cs := by
  obtain ⟨h1, h2⟩ := h
  rcases h2 with ⟨rfl, hn⟩ | ⟨g, cap, cur, rfl, hb, hh, hnc, hcm, hsz, htk⟩
  · exact .inl ⟨rfl, List.eq_nil_of_length_eq_zero hn⟩
  · refine .inr ⟨g, cap, cur.toList.drop (cs.length * 2), rfl, hb, hnc, hcm, ?_, ?_⟩
    · unfold Row Blk
      rw [← htk, List.take_append_drop, Array.toArray_toList]
      exact hh
    · rw [← htk, List.take_append_drop, Array.length_toList]; exact hsz
theorem OwnCats.at_ {w : World} {base : Nat} {v : Value} {cs : List (Int × Int)} (h : OwnCats w base v cs) : ∃ A n c, v = .slice A n c ∧ CatsAt w w.heap.size A n c cs := by
  rcases h with ⟨rfl, rfl⟩ | ⟨g, cap, tl, rfl, hb, hc, hm, hr, _⟩
  · exact ⟨none, 0, 0, rfl, CatsAt.nil_⟩
  · exact ⟨_, _, _, rfl, CatsAt.of_row hr hc hm⟩
theorem OwnCats.below {w w' : World} {base : Nat} {v : Value} {cs : List (Int × Int)} (h : OwnCats w base v cs) (hb : Below w.heap.size w w') : OwnCats w' base v cs := by
  rcases h with h | ⟨g, cap, tl, e, hb', hc, hm, hr, hl⟩
  · exact .inl h
  · exact .inr ⟨g, cap, tl, e, hb', hc, hm, hr.below hb hr.lt, hl⟩

set_option maxHeartbeats 1000000 in
/-- slices.Clone: the same categories in memory of the call's own. -/
theorem clone92 (w : World) (A : Option Addr) (n c : Nat) (cs : List (Int × Int)) (h : CatsAt w w.heap.size A n c cs) (hn : n ≤ 8796093022208) :
    Calls Try.prog 92 #[.slice A n c] w fun e w' => ∃ v, e = .returned v ∧ OwnCats w' w.heap.size v cs ∧ Below w.heap.size w w' := by
  obtain ⟨i0, hi0, hz0, hz1, hz2⟩ := info_parts cat_info
  have hnil := fun W : World => Lib.run_eql_slice_nil (P := Try.prog) W 23 32 A n c 0 0 Try.underlying23
  cases A with
  | none =>
    have hn0 : n = 0 := by
      rcases Nat.eq_zero_or_pos n with h0 | h0
      · exact h0
      · obtain ⟨b, off, e, _⟩ := h.cells h0; cases e
    have hcs : cs = [] := List.eq_nil_of_length_eq_zero (by have := h.len; omega)
    have HC := hid hcs
    clear hcs h hn0
    go_enter Try.func92, Try.ntmps92
    go_wp2_with fail
    go_ret
    exact ⟨_, rfl, .inl ⟨rfl, HC.out⟩, Below.refl _ _⟩
  | some ad =>
    have hr := h.reads
    have hone := flat_one cs
    have hlen := hid h.len
    clear h
    go_enter Try.func92, Try.ntmps92
    go_wp2_with (at_builtin
                 refine wpList_append_any _ rfl (.tmp 5) (.tmp 6) _ rfl w.heap.size 32 i0 _ 2 16 Try.underlying23 hi0 hz0 hz1 hz2 rfl (by omega) (.slice (some ⟨w.heap.size, 0, none⟩) 0 0) 0 [] rfl
                   (World.ownsRow_made w #[] 0 (Nat.le_refl _) (by simp [maxLen]) rfl) w.heap.size (some ad) n c (flat cs) rfl (hr.alloc (Nat.le_refl _) _) hone (by simp only [maxLen]; omega) (by omega) (by simp) ?_
                 intro v1 w1 hown1 hg1 hat1
                 have hb1 : Below w.heap.size w w1 := ((Below.refl _ _).alloc (Nat.le_refl _) _).grown hg1 (by simp) (by simp [Value.ownBlock]))
    go_ret
    refine ⟨v1, rfl, OwnCats.of_own ?_, hb1⟩
    rw [hlen.out]
    simpa using hown1

end Go.Proofs.Ytndohmimcbmhdaa
