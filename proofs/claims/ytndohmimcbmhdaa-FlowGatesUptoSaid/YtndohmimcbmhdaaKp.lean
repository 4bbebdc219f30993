/- What is kept: all that stood there, but for some blocks. -/
import Derived.Test.YtndohmimcbmhdaaPl
import Derived.Test.YtndohmimcbmhdaaJn
set_option linter.unusedVariables false
set_option linter.unusedSimpArgs false
namespace Go.Proofs.Ytndohmimcbmhdaa
open Go.RowKit

/-- From w on: new blocks, and of the old ones those of D alone have turned. -/
structure But (D : Nat → Prop) (w w' : World) : Prop where
  os : w'.os = w.os
  tape : w'.tape = w.tape
  output : w'.output = w.output
  size : w.heap.size ≤ w'.heap.size
  block : ∀ k, k < w.heap.size → ¬ D k → w'.heap[k]? = w.heap[k]?

section
variable {D : Nat → Prop} {a b c w w' : World}
theorem But.refl (D : Nat → Prop) (w : World) : But D w w := ⟨rfl, rfl, rfl, Nat.le_refl _, fun _ _ _ => rfl⟩
theorem But.drew (h : But D a w) : But D a w.drew := ⟨h.os, h.tape, h.output, h.size, h.block⟩
theorem But.drewN (h : But D a w) (n : Nat) : But D a (w.drewN n) := ⟨h.os, h.tape, h.output, h.size, h.block⟩
theorem But.alloc (h : But D a w) (o : Obj) : But D a (w.alloc o) :=
  ⟨h.os, h.tape, h.output, Nat.le_trans h.size (by simp), fun i hi hn => (Below.heap_alloc w o i (Nat.lt_of_lt_of_le hi h.size)).trans (h.block i hi hn)⟩
theorem But.setCell (h : But D a w) {p : Addr} (hp : D p.block ∨ a.heap.size ≤ p.block) (u : Value) : But D a (w.setCell p u) :=
  ⟨h.os, h.tape, h.output, by simpa [World.setCell] using h.size, fun i hi hn => (Below.heap_setCell w p u i (by
    rintro rfl
    rcases hp with hp | hp
    · exact hn hp
    · omega)).trans (h.block i hi hn)⟩
theorem But.below (h : But D a w) (k : Below w.heap.size w w') : But D a w' :=
  ⟨k.os.trans h.os, k.tape.trans h.tape, k.output.trans h.output, Nat.le_trans h.size k.size, fun i hi hn => (k.block i (Nat.lt_of_lt_of_le hi h.size)).trans (h.block i hi hn)⟩
theorem But.grown (h : But D a w) {row : Option Nat} (k : w.grownBy w' row) (hr : ∀ g, row = some g → D g ∨ a.heap.size ≤ g) : But D a w' :=
  ⟨k.os.trans h.os, k.tape.trans h.tape, k.output.trans h.output, Nat.le_trans h.size k.size, fun i hi hn => (k.block i (Nat.lt_of_lt_of_le hi h.size) (fun e => by
    rcases hr i e.symm with h1 | h1
    · exact hn h1
    · omega)).trans (h.block i hi hn)⟩
theorem But.trans (h : But D a b) (k : But D b c) : But D a c :=
  ⟨k.os.trans h.os, k.tape.trans h.tape, k.output.trans h.output, Nat.le_trans h.size k.size, fun i hi hn => (k.block i (Nat.lt_of_lt_of_le hi h.size) hn).trans (h.block i hi hn)⟩
/-- Of what stood before the call nothing has turned. -/
theorem But.done {B : Nat} (h : But D w w') (hw : Below B a w) (hD : ∀ k, D k → B ≤ k) (hB : B ≤ w.heap.size) : Below B a w' :=
  ⟨h.os.trans hw.os, h.tape.trans hw.tape, h.output.trans hw.output, Nat.le_trans hw.size h.size, fun i hi => (h.block i (by omega) (fun hd => by have := hD i hd; omega)).trans (hw.block i hi)⟩
theorem But.blk {g : Nat} {t : TypeId} {cs : Array Value} (h : But D a w) (k : Blk a g t cs) (hn : ¬ D g) : Blk w g t cs := (h.block g k.lt hn).trans k
theorem But.cats {B : Nat} {A : Option Addr} {n c : Nat} {cs : List (Int × Int)} (h : But D a w) (k : CatsAt a B A n c cs) (hB : B ≤ a.heap.size) (hD : ∀ k, D k → B ≤ k) : CatsAt w w.heap.size A n c cs :=
  (k.below ((h.done (Below.refl B a) hD hB))).more (Nat.le_trans hB h.size)
end
def nil_ : Nat → Prop := fun _ => False
abbrev Since := But nil_
theorem since_below {B : Nat} {a w : World} (h : Since a w) (hB : B ≤ a.heap.size) : Below B a w := ⟨h.os, h.tape, h.output, h.size, fun i hi => h.block i (by omega) (fun h => h)⟩

theorem since_then {a b c : World} (h : Since a b) (k : Below b.heap.size b c) : Since a c := h.below k

/-- A label is handed back out of its cells. -/
theorem made_end {w w3 : World} {r B : Nat} {d : Int} {cs F : List (Int × Int)} {v x y : Value} (hv : OwnCats w3 B v F) (hF : IsForm d cs F) (hr : w.heap.size ≤ r) (hB : r < B) (hb : Below w.heap.size w w3) :
    Made d cs w (.returned (.agg #[.int .i64 d, v])) ((w3.setCell ⟨r, 0, none⟩ x).setCell ⟨r, 1, none⟩ y) :=
  ⟨v, F, rfl, ((hv.far (p := ⟨r, 0, none⟩) hB _).far (p := ⟨r, 1, none⟩) hB _).mono (by omega), hF, (hb.setCell (p := ⟨r, 0, none⟩) hr _).setCell (p := ⟨r, 1, none⟩) hr _⟩
theorem label_zero {W : World} {r : Nat} {a b : Value} (h : Blk W r 26 #[a, b]) : (W.cell? ⟨r, 0, none⟩ = some a ∧ W.cell? ⟨r, 1, none⟩ = some b) ∧ (W.frozen? ⟨r, 0, none⟩ = false ∧ W.frozen? ⟨r, 1, none⟩ = false) :=
  ⟨⟨(Blk.cell h 0).trans rfl, (Blk.cell h 1).trans rfl⟩, Blk.frozen h 0, Blk.frozen h 1⟩
theorem own_since {a b c : World} {row : Option Nat} (h : Since a b) (k : b.grownBy c row) (hr : ∀ g, row = some g → a.heap.size ≤ g) : Since a c := h.grown k fun g e => .inr (hr g e)
end Go.Proofs.Ytndohmimcbmhdaa
