/- What is kept: all that stood there, but for some blocks. -/
import Derived.Test.YtndohmimcbmhdaaMz9
import Derived.Test.YtndohmimcbmhdaaMz10
import Derived.Orders
import Derived.StillTail
import Derived.Deep.QuietTactic
set_option linter.unusedVariables false
set_option linter.unusedSimpArgs false
namespace Go.Proofs.Ytndohmimcbmhdaa
open Go.RowKit

/-- From w on: new blocks, and of the old ones those of D alone have turned. -/
structure But (D : Nat → Prop) (w w' : World) : Prop where
  os : w'.os = w.os
  tape : w'.tape = w.tape
  output : w'.output = w.output
  size : w.heap.size ≤ w'.heap.size
  block : ∀ k, k < w.heap.size → ¬ D k → w'.heap[k]? = w.heap[k]?

section
variable {D : Nat → Prop} {a b c w w' : World}
theorem But.refl (D : Nat → Prop) (w : World) : But D w w := ⟨rfl, rfl, rfl, Nat.le_refl _, fun _ _ _ => rfl⟩
theorem But.drew (h : But D a w) : But D a w.drew := ⟨h.os, h.tape, h.output, h.size, h.block⟩
theorem But.drewN (h : But D a w) (n : Nat) : But D a (w.drewN n) := ⟨h.os, h.tape, h.output, h.size, h.block⟩
theorem But.alloc (h : But D a w) (o : Obj) : But D a (w.alloc o) :=
  ⟨h.os, h.tape, h.output, Nat.le_trans h.size (by simp), fun i hi hn => (Below.heap_alloc w o i (Nat.lt_of_lt_of_le hi h.size)).trans (h.block i hi hn)⟩
theorem But.setCell (h : But D a w) {p : Addr} (hp : D p.block ∨ a.heap.size ≤ p.block) (u : Value) : But D a (w.setCell p u) :=
  ⟨h.os, h.tape, h.output, by simpa [World.setCell] using h.size, fun i hi hn => (Below.heap_setCell w p u i (by
    rintro rfl
    rcases hp with hp | hp
    · exact hn hp
    · omega)).trans (h.block i hi hn)⟩
theorem But.below (h : But D a w) (k : Below w.heap.size w w') : But D a w' :=
  ⟨k.os.trans h.os, k.tape.trans h.tape, k.output.trans h.output, Nat.le_trans h.size k.size, fun i hi hn => (k.block i (Nat.lt_of_lt_of_le hi h.size)).trans (h.block i hi hn)⟩
theorem But.grown (h : But D a w) {row : Option Nat} (k : w.grownBy w' row) (hr : ∀ g, row = some g → D g ∨ a.heap.size ≤ g) : But D a w' :=
  ⟨k.os.trans h.os, k.tape.trans h.tape, k.output.trans h.output, Nat.le_trans h.size k.size, fun i hi hn => (k.block i (Nat.lt_of_lt_of_le hi h.size) (fun e => by
    rcases hr i e.symm with h1 | h1
    · exact hn h1
    · omega)).trans (h.block i hi hn)⟩
theorem But.trans (h : But D a b) (k : But D b c) : But D a c :=
  ⟨k.os.trans h.os, k.tape.trans h.tape, k.output.trans h.output, Nat.le_trans h.size k.size, fun i hi hn => (k.block i (Nat.lt_of_lt_of_le hi h.size) hn).trans (h.block i hi hn)⟩
/-- Of what stood before the call nothing has turned. -/
theorem But.done {B : Nat} (h : But D w w') (hw : Below B a w) (hD : ∀ k, D k → B ≤ k) (hB : B ≤ w.heap.size) : Below B a w' :=
  ⟨h.os.trans hw.os, h.tape.trans hw.tape, h.output.trans hw.output, Nat.le_trans hw.size h.size, fun i hi => (h.block i (by omega) (fun hd => by have := hD i hd; omega)).trans (hw.block i hi)⟩
theorem But.blk {g : Nat} {t : TypeId} {cs : Array Value} (h : But D a w) (k : Blk a g t cs) (hn : ¬ D g) : Blk w g t cs := (h.block g k.lt hn).trans k
theorem But.cats {B : Nat} {A : Option Addr} {n c : Nat} {cs : List (Int × Int)} (h : But D a w) (k : CatsAt a B A n c cs) (hB : B ≤ a.heap.size) (hD : ∀ k, D k → B ≤ k) : CatsAt w w.heap.size A n c cs :=
  (k.below ((h.done (Below.refl B a) hD hB))).more (Nat.le_trans hB h.size)
end
def nil_ : Nat → Prop := fun _ => False
abbrev Since := But nil_
theorem since_below {B : Nat} {a w : World} (h : Since a w) (hB : B ≤ a.heap.size) : Below B a w := ⟨h.os, h.tape, h.output, h.size, fun i hi => h.block i (by omega) (fun h => h)⟩

theorem since_then {a b c : World} (h : Since a b) (k : Below b.heap.size b c) : Since a c := h.below k

/-- A label is handed back out of its cells. -/
theorem made_end {w w3 : World} {r B : Nat} {d : Int} {cs F : List (Int × Int)} {v x y : Value} (hv : OwnCats w3 B v F) (hF : IsForm d cs F) (hr : w.heap.size ≤ r) (hB : r < B) (hb : Below w.heap.size w w3) :
    Made d cs w (.returned (.agg #[.int .i64 d, v])) ((w3.setCell ⟨r, 0, none⟩ x).setCell ⟨r, 1, none⟩ y) :=
  ⟨v, F, rfl, ((hv.far (p := ⟨r, 0, none⟩) hB _).far (p := ⟨r, 1, none⟩) hB _).mono (by omega), hF, (hb.setCell (p := ⟨r, 0, none⟩) hr _).setCell (p := ⟨r, 1, none⟩) hr _⟩
theorem label_zero {W : World} {r : Nat} {a b : Value} (h : Blk W r 26 #[a, b]) : (W.cell? ⟨r, 0, none⟩ = some a ∧ W.cell? ⟨r, 1, none⟩ = some b) ∧ (W.frozen? ⟨r, 0, none⟩ = false ∧ W.frozen? ⟨r, 1, none⟩ = false) :=
  ⟨⟨(Blk.cell h 0).trans rfl, (Blk.cell h 1).trans rfl⟩, Blk.frozen h 0, Blk.frozen h 1⟩
theorem own_since {a b c : World} {row : Option Nat} (h : Since a b) (k : b.grownBy c row) (hr : ∀ g, row = some g → a.heap.size ≤ g) : Since a c := h.grown k fun g e => .inr (hr g e)
end Go.Proofs.Ytndohmimcbmhdaa

/- A region whose order is drawn, walked once: what each operation leaves is told by a known value or by a relation, and each operation is shown from what it waits for alone. -/
set_option linter.unusedVariables false
set_option linter.unusedSimpArgs false
namespace Go.Proofs.Ytndohmimcbmhdaa
open Go.RowKit

/-- What an operation leaves: a known value; one that is told by a relation; a row of the call's own that it writes; one that is told by a relation until that row is written; a new block. -/
inductive Leaves where
  | val (v : Value)
  | rel (R : World → Value → Prop)
  | own (R : World → Value → Prop)
  | frail (R : World → Value → Prop)
  | fresh (R : World → Value → Prop)
  | write (C : World → Prop)
  | early (v : Value)
/-- The block that a pointer or a slice leads to. -/
def blockOf : Value → Option Nat
  | .pointer (some a) => some a.block
  | .slice (some a) _ _ => some a.block
  | _ => none
def Leaves.at (s : Leaves) (u : Value) : Value := match s with | .val v => v | .early v => v | .write _ => undef | _ => u
def Leaves.ok (s : Leaves) (W : World) (u : Value) : Prop := match s with | .val v => u = v | .rel R => R W u | .own R => R W u | .frail R => R W u | .fresh R => R W u ∧ ∃ b, blockOf u = some b ∧ b < W.heap.size | .write C => u = undef ∧ C W | .early v => u = v
/-- What is left of it later: of what a store has written nothing is said. -/
def Leaves.okk (s : Leaves) (W : World) (u : Value) : Prop := match s with | .val v => u = v | .rel R => R W u | .own R => R W u | .frail R => R W u | .fresh R => R W u ∧ ∃ b, blockOf u = some b ∧ b < W.heap.size | .write _ => u = undef | .early v => u = v
def Leaves.dis (D : Nat → Prop) (s : Leaves) : Nat → Prop := match s with | .own _ => D | .write _ => D | _ => nil_
def Leaves.stable (D : Nat → Prop) (w : World) (s : Leaves) : Prop := match s with
  | .val _ => True
  | .rel R => ∀ W W' u, But D w W → But D W W' → R W u → R W' u
  | .own R => ∀ W W' u, But D w W → But nil_ W W' → R W u → R W' u
  | .frail R => ∀ W W' u, But D w W → But nil_ W W' → R W u → R W' u
  | .fresh R => ∀ W W' u, But D w W → But D W W' → R W u → R W' u
  | .write C => ∀ W W', But D w W → But nil_ W W' → C W → C W'
  | .early _ => True
def Leaves.isFresh (s : Leaves) : Bool := match s with | .fresh _ => true | _ => false
/-- Behind the world W: a new block. -/
def Leaves.born (s : Leaves) (W : World) (u : Value) : Prop := match s with | .fresh _ => ∃ b, blockOf u = some b ∧ W.heap.size ≤ b | _ => True
def Leaves.isFrail (s : Leaves) : Bool := match s with | .frail _ => true | _ => false
def Leaves.isOwn (s : Leaves) : Bool := match s with | .own _ => true | _ => false
def Leaves.isEarly (s : Leaves) : Bool := match s with | .early _ => true | _ => false
def Leaves.isCalm (s : Leaves) : Bool := match s with | .early _ => true | .own _ => true | _ => false
def Leaves.isWr (s : Leaves) : Bool := match s with | .write _ => true | _ => false
def Leaves.dirty (s : Leaves) : Bool := match s with | .write _ => true | .own _ => true | _ => false
theorem Leaves.clean_dis {D : Nat → Prop} {s : Leaves} {a b : World} (h : But (s.dis D) a b) (hd : s.dirty = false) : But nil_ a b := by
  cases s with
  | own R => exact Bool.noConfusion hd
  | write C => exact Bool.noConfusion hd
  | early v => exact h
  | val v => exact h
  | rel R => exact h
  | frail R => exact h
  | fresh R => exact h
theorem Leaves.calm_or {s : Leaves} (h : s.isCalm = true) : s.isOwn = true ∨ s.isEarly = true := by cases s <;> first | exact .inl rfl | exact .inr rfl | exact Bool.noConfusion h
theorem Leaves.own_dirty {s : Leaves} (h : s.isOwn = true) : s.dirty = true := by cases s <;> first | rfl | exact Bool.noConfusion h
theorem Leaves.wr_dirty {s : Leaves} (h : s.isWr = true) : s.dirty = true := by cases s <;> first | rfl | exact Bool.noConfusion h
theorem Leaves.dirty_not_wr {s : Leaves} (h : s.dirty = true) (h' : s.isWr = false) : s.isOwn = true := by cases s <;> first | rfl | exact Bool.noConfusion h | exact Bool.noConfusion h'
theorem Leaves.own_not_wr {s : Leaves} (h : s.isOwn = true) (h' : s.isWr = true) : False := by cases s <;> first | exact Bool.noConfusion h | exact Bool.noConfusion h'
theorem Leaves.ok_okk {s : Leaves} {W : World} {u : Value} (h : s.ok W u) : s.okk W u := by
  cases s with
  | write C => exact h.1
  | early v => exact h
  | val v => exact h
  | rel R => exact h
  | own R => exact h
  | frail R => exact h
  | fresh R => exact h

theorem Leaves.at_ok {s : Leaves} {W : World} {u : Value} (h : s.okk W u) : s.at u = u := by
  cases s with
  | write C => exact h.symm
  | early v => exact h.symm
  | val v => exact h.symm
  | rel R => rfl
  | own R => rfl
  | frail R => rfl
  | fresh R => rfl
theorem Leaves.fresh_not_frail {s : Leaves} (h : s.isFresh = true) (h' : s.isFrail = true) : False := by
  cases s with
  | val v => exact Bool.noConfusion h
  | rel R => exact Bool.noConfusion h
  | own R => exact Bool.noConfusion h
  | frail R => exact Bool.noConfusion h
  | fresh R => exact Bool.noConfusion h'
  | write C => exact Bool.noConfusion h
  | early v => exact Bool.noConfusion h
theorem Leaves.fresh_ok {s : Leaves} {W : World} {u : Value} (h : s.isFresh = true) (h' : s.okk W u) : ∃ b, blockOf u = some b ∧ b < W.heap.size := by
  cases s with
  | val v => exact Bool.noConfusion h
  | rel R => exact Bool.noConfusion h
  | own R => exact Bool.noConfusion h
  | frail R => exact Bool.noConfusion h
  | fresh R => exact h'.2
  | write C => exact Bool.noConfusion h
  | early v => exact Bool.noConfusion h
theorem Leaves.fresh_born {s : Leaves} {W : World} {u : Value} (h : s.isFresh = true) (h' : s.born W u) : ∃ b, blockOf u = some b ∧ W.heap.size ≤ b := by
  cases s with
  | val v => exact Bool.noConfusion h
  | rel R => exact Bool.noConfusion h
  | own R => exact Bool.noConfusion h
  | frail R => exact Bool.noConfusion h
  | fresh R => exact h'
  | write C => exact Bool.noConfusion h
  | early v => exact Bool.noConfusion h
theorem But.wide {D : Nat → Prop} {a b : World} (h : But nil_ a b) : But D a b := ⟨h.os, h.tape, h.output, h.size, fun k hk _ => h.block k hk (fun x => x)⟩
theorem But.dis {D : Nat → Prop} {s : Leaves} {a b : World} (h : But (s.dis D) a b) : But D a b := by
  cases s with
  | val v => exact But.wide h
  | rel R => exact But.wide h
  | own R => exact h
  | write C => exact h
  | early v => exact But.wide h
  | frail R => exact But.wide h
  | fresh R => exact But.wide h

def looseUpon (P : Program) (D' : Nat → Prop) (s : Leaves) (W : World) : Result Next → Prop
  | .ok (.value u) W' => But D' W W' ∧ s.ok W' u ∧ s.born W u
  | .ok .skip W' => But D' W W' ∧ s.ok W' undef ∧ s.born W undef
  | .ok (.enter f args) W' => Calls P f args W' fun e W'' => ∃ u, e = .returned u ∧ But D' W W'' ∧ s.ok W'' u ∧ s.born W u
  | _ => False

theorem wp_of_loose {P : Program} {o : Oper} {a : Act} {D' : Nat → Prop} {s : Leaves} {W : World} {K : Act → World → Prop} {Q : Exit → Act → World → Prop}
    (h : looseUpon P D' s W ((execOp a.eval o).run P W)) (k : ∀ u W', But D' W W' → s.ok W' u → s.born W u → K (a.put o.dst u) W') : o.wp P a W K Q := by
  unfold Oper.wp
  generalize (execOp a.eval o).run P W = r at *
  cases r with
  | ok n W' =>
    cases n <;> simp only [looseUpon] at h <;> simp only [Oper.upon]
    case value u => exact k _ _ h.1 h.2.1 h.2.2
    case skip => exact k _ _ h.1 h.2.1 h.2.2
    case enter f args =>
      refine h.mono fun e W'' ⟨u, he, hb, hs, hn⟩ => ?_
      subst he
      exact k _ _ hb hs hn
  | halt x W' => simp only [looseUpon] at h

/-! ### The frame as it stands once the operations below i have come up -/
def dstOf (ops : Array Oper) (i : Nat) : Option Tmp := (ops[i]?).bind (·.dst)
def lay (ops : Array Oper) (a : Act) (S : Nat → Leaves) (vs : Nat → Value) : Nat → Act
  | 0 => a
  | i + 1 => (lay ops a S vs i).put (dstOf ops i) ((S i).at (vs i))

theorem put_size (a : Act) (d : Option Tmp) (v : Value) : (a.put d v).tmps.size = a.tmps.size := by cases d <;> simp [Act.put]
theorem put_defers_ (a : Act) (d : Option Tmp) (v : Value) : (a.put d v).defers = a.defers := by cases d <;> rfl
theorem put_same (a : Act) (t : Tmp) (v : Value) (ht : t < a.tmps.size) : (a.put (some t) v).tmps[t]? = some v := by simp [Act.put, ht]
theorem put_other (a : Act) (d : Option Tmp) (v : Value) (t : Tmp) (h : d ≠ some t) : (a.put d v).tmps[t]? = a.tmps[t]? := by
  cases d with
  | none => rfl
  | some d => exact Array.getElem?_setIfInBounds_ne (fun e => h (by rw [e]))
theorem lay_size (ops : Array Oper) (a : Act) (S : Nat → Leaves) (vs : Nat → Value) (i : Nat) : (lay ops a S vs i).tmps.size = a.tmps.size := by
  induction i with
  | zero => rfl
  | succ i ih => rw [lay, put_size, ih]
theorem lay_defers (ops : Array Oper) (a : Act) (S : Nat → Leaves) (vs : Nat → Value) (i : Nat) : (lay ops a S vs i).defers = a.defers := by
  induction i with
  | zero => rfl
  | succ i ih => rw [lay, put_defers_, ih]
theorem lay_none (ops : Array Oper) (a : Act) (S : Nat → Leaves) (vs : Nat → Value) (t : Tmp) (i : Nat) (h : ∀ j, j < i → dstOf ops j ≠ some t) : (lay ops a S vs i).tmps[t]? = a.tmps[t]? := by
  induction i with
  | zero => rfl
  | succ i ih => rw [lay, put_other _ _ _ _ (h i (by omega)), ih fun j hj => h j (by omega)]
theorem lay_some (ops : Array Oper) (a : Act) (S : Nat → Leaves) (vs : Nat → Value) (t : Tmp) (ht : t < a.tmps.size) (j i : Nat) (hji : j < i) (hj : dstOf ops j = some t) (h : ∀ k, k < i → dstOf ops k = some t → k = j) :
    (lay ops a S vs i).tmps[t]? = some ((S j).at (vs j)) := by
  induction i with
  | zero => omega
  | succ i ih =>
    by_cases e : j = i
    · subst e
      rw [lay, hj, put_same]
      rw [lay_size]; exact ht
    · rw [lay, put_other _ _ _ _ (fun he => e (h i (by omega) he).symm)]
      exact ih (by omega) fun k hk hk2 => h k (by omega) hk2

/-! ### What a walk shows of the operations, one by one -/
def waitsB (ops : Array Oper) (t i : Nat) : Bool := Region.waitsFor .any ops t i
/-- What a store knows of those ahead of it. -/
def Prev (S : Nat → Leaves) (i : Nat) (w W : World) : Prop := (S i).isWr = true → ((∀ k, k < i → (S k).isWr = false) → But nil_ w W) ∧ (∀ j C, j < i → S j = .write C → (∀ k, j < k → k < i → (S k).isWr = false) → C W)
structure Lax (P : Program) (ops : Array Oper) (N : Nat) (a : Act) (D : Nat → Prop) (w : World) (S : Nat → Leaves) : Prop where
  run : ∀ i o, i < N → ops[i]? = some o →
    ((∀ vs, Region.wanted o (yielded ops (lay ops a S vs i).tmps) = true) ∧ (∀ vs W, But D w W → ((S i).isCalm = true → But nil_ w W) → Prev S i w W → (∀ e ∈ o.after, Region.binds .any e = true → e.on < i → ((S e.on).isFrail = true → (S i).isOwn = true) → (S e.on).okk W (vs e.on)) → looseUpon P ((S i).dis D) (S i) W ((execOp (lay ops a S vs i).eval o).run P W))) ∨
    ((∀ vs, Region.wanted o (yielded ops (lay ops a S vs i).tmps) = false) ∧ S i = .val undef)
  stable : ∀ i, i < N → (S i).stable D w
  own : ∀ i j, i < N → j < N → (S i).dirty = true → (S j).dirty = true → i < j → (S i).isWr = true ∧ (S j).isWr = true ∧ waitsB ops j i = true
  early : ∀ i j, i < N → j < N → (S i).isEarly = true → (S j).dirty = true → i < j ∧ waitsB ops j i = true
theorem Lax.one {P : Program} {ops : Array Oper} {N : Nat} {a : Act} {D : Nat → Prop} {w : World} {S : Nat → Leaves} (hL : Lax P ops N a D w S) {i j : Nat} (hi : i < N) (hj : j < N) (ho : (S i).isOwn = true) (hd : (S j).dirty = true) : i = j := by
  rcases Nat.lt_trichotomy i j with h | h | h
  · exact (Leaves.own_not_wr ho (hL.own i j hi hj (Leaves.own_dirty ho) hd h).1).elim
  · exact h
  · exact (Leaves.own_not_wr ho (hL.own j i hj hi hd (Leaves.own_dirty ho) h).2.1).elim

def headArr (N n : Nat) : Array Bool := ((List.range n).map fun j => decide (j < N)).toArray
/-- The Bool over a region: the head may be told one by one; the tail waits for all of it and comes in order. -/
def looseB (ops : Array Oper) (N : Nat) : Bool :=
  Region.noSelect ops && decide (N ≤ ops.size) &&
  ((List.range N).all fun i => (List.range N).all fun j => decide (i = j) || (dstOf ops i).isNone || decide (dstOf ops i ≠ dstOf ops j)) &&
  ((List.range N).all fun i => match ops[i]? with
    | some o => (o.after.all fun e => !Region.binds .any e || decide (e.on < i)) && ((o.looksAt ops).all fun t => (List.range N).all fun j => decide (dstOf ops j ≠ some t) || (decide (j < i) && waitsB ops i j))
    | none => false) &&
  (decide (N = ops.size) || (Region.sinkB .any ops N && Region.chainB .any ops N)) &&
  Region.seqB .any ops (ops.size - N) N (headArr N ops.size)

section
variable {P : Program} {ops : Array Oper} {N : Nat} {a : Act} {D : Nat → Prop} {w : World} {S : Nat → Leaves}

theorem looseB_parts (h : looseB ops N = true) : Region.noSelect ops = true ∧ N ≤ ops.size ∧ (∀ i j t, i < N → j < N → dstOf ops i = some t → dstOf ops j = some t → i = j) ∧
    (∀ i o, i < N → ops[i]? = some o → (∀ e ∈ o.after, Region.binds .any e = true → e.on < i) ∧ ∀ t ∈ o.looksAt ops, ∀ j, j < N → dstOf ops j = some t → j < i ∧ waitsB ops i j = true) ∧
    (N = ops.size ∨ (Region.sinkB .any ops N = true ∧ Region.chainB .any ops N = true)) ∧ Region.seqB .any ops (ops.size - N) N (headArr N ops.size) = true := by
  unfold looseB at h
  simp only [Bool.and_eq_true, decide_eq_true_eq] at h
  obtain ⟨⟨⟨⟨⟨h1, h2⟩, h3⟩, h4⟩, h5⟩, h6⟩ := h
  refine ⟨h1, h2, fun i j t hi hj ei ej => ?_, fun i o hi ho => ?_, ?_, h6⟩
  · have q := List.all_eq_true.1 (List.all_eq_true.1 h3 i (List.mem_range.2 hi)) j (List.mem_range.2 hj)
    simp only [Bool.or_eq_true, decide_eq_true_eq] at q
    rcases q with (q | q) | q
    · exact q
    · rw [ei] at q; cases q
    · exact absurd (ei.trans ej.symm) q
  · have q := List.all_eq_true.1 h4 i (List.mem_range.2 hi)
    rw [ho] at q
    simp only [Bool.and_eq_true] at q
    refine ⟨fun e he hb => ?_, fun t ht j hj hd => ?_⟩
    · have := Array.all_eq_true_iff_forall_mem.1 q.1 e he
      simp only [hb, Bool.not_true, Bool.false_or, decide_eq_true_eq] at this
      exact this
    · have := List.all_eq_true.1 (List.all_eq_true.1 q.2 t ht) j (List.mem_range.2 hj)
      simp only [Bool.or_eq_true, decide_eq_true_eq, Bool.and_eq_true] at this
      rcases this with h | h
      · exact absurd hd h
      · exact h
  · simp only [Bool.or_eq_true, decide_eq_true_eq, Bool.and_eq_true] at h5
    exact h5

theorem eval_same {b c : Act} (x : Operand) (h : ∀ t, x = .tmp t → b.tmps[t]? = c.tmps[t]?) : b.eval x = c.eval x := by
  cases x with
  | tmp t => simp only [Act.eval, Array.getD_eq_getD_getElem?, h t rfl]
  | _ => rfl

/-- Frames that agree where the operation looks run it alike. -/
theorem exec_same {b c : Act} {o : Oper} (hs : ∀ cs d, o.op ≠ .select cs d) (h : ∀ t ∈ o.looksAt ops, b.tmps[t]? = c.tmps[t]?) :
    execOp b.eval o = execOp c.eval o ∧ Region.wanted o (yielded ops b.tmps) = Region.wanted o (yielded ops c.tmps) := by
  refine ⟨execOp_congr o hs fun x hx => eval_same x fun t ht => h t ?_, ?_⟩
  · subst ht
    exact List.mem_append_left _ (List.mem_filterMap.2 ⟨.tmp t, by simpa using hx, rfl⟩)
  · unfold Region.wanted
    cases hg : o.guard with
    | none => rfl
    | some gw =>
      obtain ⟨g, want⟩ := gw
      have hy : yielded ops b.tmps g = yielded ops c.tmps g := by
        unfold yielded
        cases ht : (ops[g]?).bind (·.dst) with
        | none => rfl
        | some t =>
          have := h t (by simp [Oper.looksAt, hg, ht])
          simp only [Option.bind_some, this]
      simp only [hy]

/-- The state on the way through the head. -/
structure Way (ops : Array Oper) (N : Nat) (a : Act) (D : Nat → Prop) (w : World) (S : Nat → Leaves) (listed : Array Bool) (vs : Nat → Value) (b : Act) (W : World) : Prop where
  inv : HeadInv .any ops N listed
  but : But D w W
  calm : (∀ k, k < N → (S k).dirty = true → listed.getD k false = false) → But nil_ w W
  ok : ∀ j, j < N → listed.getD j false = true → ((S j).isFrail = true → ∀ k, k < N → (S k).dirty = true → listed.getD k false = false) → (S j).okk W (vs j)
  last : ∀ j C, j < N → listed.getD j false = true → S j = .write C → (∀ k, k < N → (S k).isWr = true → listed.getD k false = true → k ≤ j) → C W
  apart : ∀ j k, j < N → k < N → j ≠ k → listed.getD j false = true → listed.getD k false = true → (S j).isFresh = true → (S k).isFresh = true → blockOf (vs j) ≠ blockOf (vs k)
  tsize : b.tmps.size = a.tmps.size
  defers : b.defers = a.defers
  hit : ∀ j t, j < N → listed.getD j false = true → dstOf ops j = some t → t < a.tmps.size → b.tmps[t]? = some ((S j).at (vs j))
  miss : ∀ t, (∀ j, j < N → listed.getD j false = true → dstOf ops j ≠ some t) → b.tmps[t]? = a.tmps[t]?

theorem getD_set_eq {listed : Array Bool} {i : Nat} (d : Bool) (h : i < listed.size) : (listed.setIfInBounds i true).getD i d = true := by simp [h]

theorem unlisted_of {listed : Array Bool} {i : Nat} (h : listed.getD i true = false) : i < listed.size ∧ listed.getD i false = false := by
  rcases Nat.lt_or_ge i listed.size with h' | h'
  · exact ⟨h', by simp [h'] at h ⊢; exact h⟩
  · simp [Array.getElem?_eq_none h'] at h

/-- How many of the head are still to come. -/
def togo (listed : Array Bool) (N : Nat) : Nat := ((List.range N).filter fun j => !listed.getD j false).length
theorem togo_set {listed : Array Bool} {N i : Nat} (hi : i < N) (hs : i < listed.size) (hu : listed.getD i false = false) : togo (listed.setIfInBounds i true) N + 1 = togo listed N := by
  unfold togo
  induction N with
  | zero => omega
  | succ N ih =>
    rw [List.range_succ, List.filter_append, List.filter_append, List.length_append, List.length_append]
    by_cases e : i = N
    · subst e
      have e1 : (List.range i).filter (fun j => !(listed.setIfInBounds i true).getD j false) = (List.range i).filter (fun j => !listed.getD j false) := by
        apply List.filter_congr
        intro j hj
        rw [getD_set_ne false (by have := List.mem_range.1 hj; omega)]
      rw [e1]
      have e2 := getD_set_eq (listed := listed) (i := i) false hs
      simp only [List.filter_cons, List.filter_nil, e2, hu]
      simp
    · have := ih (by omega)
      have e2 : (listed.setIfInBounds i true).getD N false = listed.getD N false := getD_set_ne false e
      simp only [List.filter_cons, List.filter_nil, e2]
      omega
theorem togo_zero {listed : Array Bool} {N : Nat} (h : togo listed N = 0) : ∀ j, j < N → listed.getD j false = true := by
  intro j hj
  unfold togo at h
  have := List.eq_nil_of_length_eq_zero h
  rw [List.filter_eq_nil_iff] at this
  have := this j (List.mem_range.2 hj)
  simpa using this
theorem togo_pos {listed : Array Bool} {N : Nat} (h : togo listed N ≠ 0) : ∃ j, j < N ∧ listed.getD j false = false ∧ ∀ k, k < j → listed.getD k false = true := by
  have : ∃ j, j < N ∧ listed.getD j false = false := by
    unfold togo at h
    cases hf : (List.range N).filter fun j => !listed.getD j false with
    | nil => rw [hf] at h; exact absurd rfl h
    | cons j l =>
      have hm : j ∈ (List.range N).filter fun j => !listed.getD j false := by rw [hf]; exact List.mem_cons_self
      rw [List.mem_filter] at hm
      exact ⟨j, List.mem_range.1 hm.1, by simpa using hm.2⟩
  obtain ⟨j, hj, hu⟩ := this
  induction j using Nat.strongRecOn with
  | _ j ih =>
    by_cases hx : ∀ k, k < j → listed.getD k false = true
    · exact ⟨j, hj, hu, hx⟩
    · have : ∃ k, k < j ∧ listed.getD k false = false := by
        false_or_by_contra
        rename_i hn
        refine hx fun k hk => ?_
        cases hq : listed.getD k false with
        | true => rfl
        | false => exact absurd ⟨k, hk, hq⟩ hn
      obtain ⟨k, hk, hku⟩ := this
      exact ih k hk (by omega) hku

theorem way_done {listed : Array Bool} {vs : Nat → Value} {b : Act} {W : World} (hB : looseB ops N = true) (h : Way ops N a D w S listed vs b W) (hz : togo listed N = 0) : b = lay ops a S vs N ∧ listed = headArr N ops.size := by
  obtain ⟨_, hN, hdst, _, _, _⟩ := looseB_parts hB
  have hall := togo_zero hz
  constructor
  · have ht : b.tmps = (lay ops a S vs N).tmps := by
      apply Array.ext_getElem?
      intro t
      by_cases hx : ∃ j, j < N ∧ dstOf ops j = some t
      · obtain ⟨j, hj, hd⟩ := hx
        by_cases htl : t < a.tmps.size
        · rw [h.hit j t hj (hall j hj) hd htl, lay_some ops a S vs t htl j N hj hd fun k hk hk2 => hdst k j t hk hj hk2 hd]
        · rw [Array.getElem?_eq_none (by rw [h.tsize]; omega), Array.getElem?_eq_none (by rw [lay_size]; omega)]
      · have hx2 : ∀ j, j < N → dstOf ops j ≠ some t := fun j hj hd => hx ⟨j, hj, hd⟩
        rw [h.miss t fun j hj _ => hx2 j hj, lay_none ops a S vs t N hx2]
    have hd : b.defers = (lay ops a S vs N).defers := by rw [h.defers, lay_defers]
    cases b
    cases hl : lay ops a S vs N
    rw [hl] at ht hd
    simp only at ht hd
    rw [ht, hd]
  · apply Array.ext_getElem?
    intro t
    by_cases hts : t < ops.size
    · have e1 : listed[t]? = some (listed.getD t false) := by simp [h.inv.size, hts]
      rw [e1]
      have e2 : (headArr N ops.size)[t]? = some (decide (t < N)) := by simp [headArr, hts]
      rw [e2]
      by_cases hn : t < N
      · rw [hall t hn]; simp [hn]
      · rw [getD_both (h.inv.tail t (by omega) hts)]; simp [hn]
    · rw [Array.getElem?_eq_none (by rw [h.inv.size]; omega), Array.getElem?_eq_none (by simp [headArr]; omega)]

theorem way_go {Q : Exit → Act → World → Prop} (hB : looseB ops N = true) (hL : Lax P ops N a D w S)
    (hQ : ∀ vs W, But D w W → (∀ j, j < N → (S j).isFrail = false → (S j).okk W (vs j)) → (∀ j k, j < N → k < N → j ≠ k → (S j).isFresh = true → (S k).isFresh = true → blockOf (vs j) ≠ blockOf (vs k)) → (∀ j C, j < N → S j = .write C → (∀ k, k < N → (S k).isWr = true → k ≤ j) → C W) → wpList P ops Q (ops.toList.drop N) (lay ops a S vs N) W) :
    ∀ (m : Nat) (listed : Array Bool) (vs : Nat → Value) (b : Act) (W : World), togo listed N = m → Way ops N a D w S listed vs b W → wpAny P .any ops Q (m + (ops.size - N)) listed b W := by
  obtain ⟨hsel, hN, hdst, hdeps, htail, hseq⟩ := looseB_parts hB
  intro m
  induction m with
  | zero =>
    intro listed vs b W hm h
    obtain ⟨rfl, rfl⟩ := way_done hB h hm
    have hall := togo_zero hm
    have := wpAny_of_seq (md := .any) (Q' := Q) (ops.toList.drop N) N (headArr N ops.size) (lay ops a S vs N) W (fun j => by simp [List.getElem?_drop]) (by simpa using hseq) (hQ vs W h.but (fun j hj hf => h.ok j hj (hall j hj) (fun hx => by rw [hf] at hx; cases hx)) (fun j k hj hk hne => h.apart j k hj hk hne (hall j hj) (hall k hk)) (fun j C hj hC hlast => h.last j C hj (hall j hj) hC fun k hk hkw _ => hlast k hk hkw))
    rw [Nat.zero_add]
    simpa using this
  | succ m ih =>
    intro listed vs b W hm h
    rw [show m + 1 + (ops.size - N) = (m + (ops.size - N)) + 1 by omega]
    obtain ⟨j0, hj0, hu0, hl0⟩ := togo_pos (listed := listed) (N := N) (by omega)
    have hin : ∀ j, j < N → listed.getD j false = false → listed.getD j true = false := fun j hj hu => by
      have : j < listed.size := by rw [h.inv.size]; omega
      simp [this] at hu ⊢; exact hu
    refine ⟨fun hr => ?_, fun i hi => ?_⟩
    · have hj0s : j0 < ops.size := by omega
      have : j0 ∈ Region.ready .any ops listed := mem_ready.2 ⟨hin j0 hj0 hu0, ops[j0], by simp [hj0s], fun e he hb => hl0 _ ((hdeps j0 _ hj0 (by simp [hj0s])).1 e he hb)⟩
      rw [hr] at this
      cases this
    · obtain ⟨hun, o, ho, hall⟩ := mem_ready.1 hi
      have his : i < ops.size := (Array.getElem?_eq_some_iff.1 ho).1
      have hiN : i < N := by
        rcases Nat.lt_or_ge i N with hlt | hge
        · exact hlt
        · rcases htail with he | ⟨hs, hc⟩
          · omega
          · exact absurd hi (tail_waits hs hc (by omega) h.inv _ j0 rfl hj0 (hin j0 hj0 hu0) i hge)
      obtain ⟨hils, hiu⟩ := unlisted_of hun
      have hdo : dstOf ops i = o.dst := by simp [dstOf, ho]
      obtain ⟨hdep, hlook⟩ := hdeps i o hiN ho
      have hagree : ∀ t ∈ o.looksAt ops, b.tmps[t]? = (lay ops a S vs i).tmps[t]? := by
        intro t ht
        by_cases hx : ∃ j, j < N ∧ dstOf ops j = some t
        · obtain ⟨j, hj, hd⟩ := hx
          obtain ⟨hji, hw⟩ := hlook t ht j hj hd
          obtain ⟨o', ho', e, he, hb, hon⟩ := Region.waitsFor_spec hw
          obtain rfl : o' = o := Option.some.inj (ho'.symm.trans ho)
          have hlj : listed.getD j false = true := by have := hall e he hb; rwa [hon] at this
          by_cases htl : t < a.tmps.size
          · rw [h.hit j t hj hlj hd htl, lay_some ops a S vs t htl j i hji hd fun k hk hk2 => hdst k j t (by omega) hj hk2 hd]
          · rw [Array.getElem?_eq_none (by rw [h.tsize]; exact Nat.not_lt.1 htl), Array.getElem?_eq_none (by rw [lay_size]; exact Nat.not_lt.1 htl)]
        · have hx2 : ∀ j, j < N → dstOf ops j ≠ some t := fun j hj hd => hx ⟨j, hj, hd⟩
          rw [h.miss t fun j hj _ => hx2 j hj, lay_none ops a S vs t i fun j hj => hx2 j (by omega)]
      obtain ⟨hex, hwa⟩ := exec_same (ops := ops) (fun cs d => Region.noSelect_spec hsel i o cs d ho) hagree
      have hdown : ∀ j k, j < N → k < N → (S j).dirty = true → (S k).dirty = true → j < k → listed.getD k false = true → listed.getD j false = true := fun j k hj hk hdj hdk hjk hl => by
        obtain ⟨oj, hoj, e, he, hb, hon⟩ := Region.waitsFor_spec (hL.own j k hj hk hdj hdk hjk).2.2
        have := h.inv.closed k oj hoj hl e he hb
        rwa [hon] at this
      -- behind the operation
      have hnext : ∀ u W', But ((S i).dis D) W W' → (S i).ok W' u → (S i).born W u → wpAny P .any ops Q (m + (ops.size - N)) (listed.setIfInBounds i true) (b.put o.dst u) W' := by
        intro u W' hbu hok hborn
        refine ih (listed.setIfInBounds i true) (fun j => if j = i then u else vs j) (b.put o.dst u) W' (by have := togo_set (N := N) hiN hils hiu; omega) ?_
        have hlist : ∀ j, (listed.setIfInBounds i true).getD j false = true → j = i ∨ listed.getD j false = true := fun j hj => by
          by_cases e : j = i
          · exact .inl e
          · rw [getD_set_ne false (Ne.symm e)] at hj; exact .inr hj
        have hback : (∀ k, k < N → (S k).dirty = true → (listed.setIfInBounds i true).getD k false = false) → (S i).dirty = false ∧ ∀ k, k < N → (S k).dirty = true → listed.getD k false = false := fun hc => by
          have h1 : (S i).dirty = false := by
            cases hq : (S i).dirty with
            | false => rfl
            | true => have := hc i hiN hq; rw [getD_set_eq false hils] at this; cases this
          refine ⟨h1, fun k hk hko => ?_⟩
          have := hc k hk hko
          have hne : i ≠ k := fun e => by subst e; rw [h1] at hko; cases hko
          rwa [getD_set_ne false hne] at this
        refine ⟨h.inv.set hi hiN, h.but.trans hbu.dis, fun hc => ?_, fun j hj hjl hfr => ?_, fun j C hj hjl hC hlast => ?_, fun j k hj hk hne hjl hkl hfj hfk => ?_, by rw [put_size, h.tsize], by rw [put_defers_, h.defers], fun j t hj hjl hd htl => ?_, fun t hno => ?_⟩
        · obtain ⟨h1, h2⟩ := hback hc
          exact (h.calm h2).trans (Leaves.clean_dis hbu h1)
        · by_cases e : j = i
          · subst e; simpa using Leaves.ok_okk hok
          · rcases hlist j hjl with h1 | h1
            · exact absurd h1 e
            · rw [if_neg e]
              have hst := hL.stable j hj
              have hk := h.ok j hj h1 (fun hx k hk hko => by
                have := hfr hx k hk hko
                by_cases e2 : k = i
                · subst e2; rw [getD_set_eq false hils] at this; cases this
                · rwa [getD_set_ne false (Ne.symm e2)] at this)
              cases hs : S j with
              | val v => rw [hs] at hk; exact hk
              | write C => rw [hs] at hk; exact hk
              | early v => rw [hs] at hk; exact hk
              | rel R => rw [hs] at hst hk; exact hst W W' _ h.but hbu.dis hk
              | fresh R =>
                rw [hs] at hst hk
                obtain ⟨hk, b, eb, hlb⟩ := hk
                exact ⟨hst W W' _ h.but hbu.dis hk, b, eb, Nat.lt_of_lt_of_le hlb hbu.size⟩
              | own R =>
                rw [hs] at hst hk
                refine hst W W' _ h.but (Leaves.clean_dis hbu ?_) hk
                cases hdi : (S i).dirty with
                | false => rfl
                | true => exact absurd (hL.one hj hiN (by rw [hs]; rfl) hdi) e
              | frail R =>
                rw [hs] at hst hk
                refine hst W W' _ h.but (Leaves.clean_dis hbu ?_) hk
                cases hdi : (S i).dirty with
                | false => rfl
                | true =>
                  have := hfr (by rw [hs]; rfl) i hiN hdi
                  rw [getD_set_eq false hils] at this
                  cases this
        · by_cases e : j = i
          · subst e
            rw [hC] at hok
            exact hok.2
          · rcases hlist j hjl with h1 | h1
            · exact absurd h1 e
            · have hst := hL.stable j hj
              rw [hC] at hst
              have hjd : (S j).dirty = true := by rw [hC]; rfl
              have hnd : (S i).dirty = false := by
                cases hdi : (S i).dirty with
                | false => rfl
                | true =>
                  rcases Nat.lt_or_gt_of_ne (show i ≠ j from fun x => e x.symm) with hlt | hgt
                  · have := hdown i j hiN hj hdi hjd hlt h1
                    rw [hiu] at this; cases this
                  · have hw := (hL.own j i hj hiN hjd hdi hgt).2.1
                    have := hlast i hiN hw (getD_set_eq false hils)
                    omega
              refine hst W W' h.but (Leaves.clean_dis hbu hnd) (h.last j C hj h1 hC fun k hk hkw hkl => hlast k hk hkw ?_)
              by_cases e2 : k = i
              · subst e2; exact getD_set_eq false hils
              · rw [getD_set_ne false (Ne.symm e2)]; exact hkl
        · have hlow : ∀ k, k < N → k ≠ i → (listed.setIfInBounds i true).getD k false = true → (S k).isFresh = true → ∃ b, blockOf (vs k) = some b ∧ b < W.heap.size := fun k hk hki hkl hfk => by
            rcases hlist k hkl with h1 | h1
            · exact absurd h1 hki
            · exact Leaves.fresh_ok hfk (h.ok k hk h1 fun hx => (Leaves.fresh_not_frail hfk hx).elim)
          have hnew : (S i).isFresh = true → ∃ b, blockOf u = some b ∧ W.heap.size ≤ b := fun hx => Leaves.fresh_born hx hborn
          by_cases e1 : j = i
          · have e2 : k ≠ i := fun e2 => hne (e1.trans e2.symm)
            rw [if_pos e1, if_neg e2]
            obtain ⟨b, eb, hb⟩ := hnew (by rw [← e1]; exact hfj)
            obtain ⟨b', eb', hb'⟩ := hlow k hk e2 hkl hfk
            rw [eb, eb']
            intro he
            injection he with he
            omega
          · by_cases e2 : k = i
            · rw [if_neg e1, if_pos e2]
              obtain ⟨b, eb, hb⟩ := hnew (by rw [← e2]; exact hfk)
              obtain ⟨b', eb', hb'⟩ := hlow j hj e1 hjl hfj
              rw [eb, eb']
              intro he
              injection he with he
              omega
            · rw [if_neg e1, if_neg e2]
              refine h.apart j k hj hk hne ?_ ?_ hfj hfk
              · rcases hlist j hjl with h1 | h1
                · exact absurd h1 e1
                · exact h1
              · rcases hlist k hkl with h1 | h1
                · exact absurd h1 e2
                · exact h1
        · by_cases e : j = i
          · subst e
            rw [hdo] at hd
            rw [hd, put_same _ _ _ (by rw [h.tsize]; exact htl), if_pos rfl, Leaves.at_ok (Leaves.ok_okk hok)]
          · rw [if_neg e, put_other _ _ _ _ (fun he => e (hdst j i t hj hiN hd (by rw [hdo]; exact he)))]
            rcases hlist j hjl with h1 | h1
            · exact absurd h1 e
            · exact h.hit j t hj h1 hd htl
        · rw [put_other _ _ _ _ (fun he => hno i hiN (getD_set_eq false hils) (by rw [hdo]; exact he))]
          refine h.miss t fun j hj hjl => ?_
          by_cases e : j = i
          · subst e; rw [hiu] at hjl; cases hjl
          · exact hno j hj (by rw [getD_set_ne false (Ne.symm e)]; exact hjl)
      unfold wpOp
      simp only [ho]
      rcases hL.run i o hiN ho with ⟨hw, hrun⟩ | ⟨hw, hund⟩
      · rw [if_pos (by rw [hwa]; exact hw vs)]
        refine .inl (wp_of_loose (D' := (S i).dis D) (s := S i) ?_ fun u W' h1 h2 h3 => hnext u W' h1 h2 h3)
        rw [hex]
        refine hrun vs W h.but (fun hx => h.calm fun k hk hko => by
          rcases Leaves.calm_or hx with hx | hx
          · have := hL.one hiN hk hx hko; subst this; exact hiu
          · cases hq : listed.getD k false with
            | false => rfl
            | true =>
              obtain ⟨oj, hoj, e, he, hb, hon⟩ := Region.waitsFor_spec (hL.early i k hiN hk hx hko).2
              have := h.inv.closed k oj hoj hq e he hb
              rw [hon, hiu] at this; cases this) (fun hwr => ⟨fun hno => h.calm fun k hk hkd => ?_, fun j C hji hC hno => ?_⟩) fun e he hb hlt hfr => h.ok e.on (by omega) (hall e he hb) fun hx k hk hko => by
          have := hL.one hiN hk (hfr hx) hko
          subst this
          exact hiu
        · rcases Nat.lt_trichotomy k i with hlt | rfl | hgt
          · have := (hL.own k i hk hiN hkd (Leaves.wr_dirty hwr) hlt).1
            rw [hno k hlt] at this; cases this
          · exact hiu
          · cases hq : listed.getD k false with
            | false => rfl
            | true => have := hdown i k hiN hk (Leaves.wr_dirty hwr) hkd hgt hq; rw [hiu] at this; cases this
        · have hjd : (S j).dirty = true := by rw [hC]; rfl
          refine h.last j C (by omega) ?_ hC fun k hk hkw hkl => ?_
          · obtain ⟨oj, hoj, e, he, hb, hon⟩ := Region.waitsFor_spec (hL.own j i (by omega) hiN hjd (Leaves.wr_dirty hwr) hji).2.2
            obtain rfl : oj = o := Option.some.inj (hoj.symm.trans ho)
            have := hall e he hb
            rwa [hon] at this
          · rcases Nat.lt_trichotomy k i with hlt | rfl | hgt
            · rcases Nat.lt_or_ge j k with h1 | h1
              · have := hno k h1 hlt
                rw [hkw] at this; cases this
              · exact h1
            · rw [hiu] at hkl; cases hkl
            · have := hdown i k hiN hk (Leaves.wr_dirty hwr) (Leaves.wr_dirty hkw) hgt hkl
              rw [hiu] at this; cases this
      · rw [if_neg (by rw [hwa, hw vs]; exact Bool.false_ne_true)]
        exact hnext undef W (But.refl _ _) (by rw [hund]; rfl) (by rw [hund]; trivial)

theorem wp_region_lax {id N : Nat} {Q : Exit → Act → World → Prop} {S : Nat → Leaves} (hm : P.follows .mixedOrders = true) (hB : looseB ops N = true) (hL : Lax P ops N a D w S)
    (hQ : ∀ vs W, But D w W → (∀ j, j < N → (S j).isFrail = false → (S j).okk W (vs j)) → (∀ j k, j < N → k < N → j ≠ k → (S j).isFresh = true → (S k).isFresh = true → blockOf (vs j) ≠ blockOf (vs k)) → (∀ j C, j < N → S j = .write C → (∀ k, k < N → (S k).isWr = true → k ≤ j) → C W) → wpList P ops Q (ops.toList.drop N) (lay ops a S vs N) W) : (Code.region id ops true).wp P Q a w := by
  obtain ⟨_, hN, _, _, _, _⟩ := looseB_parts hB
  refine wp_region_any hm ?_
  have hz : togo (Array.replicate ops.size false) N = N := by
    unfold togo
    rw [List.filter_eq_self.2, List.length_range]
    intro j _
    rw [getD_replicate_false]; rfl
  have := way_go hB hL hQ N (Array.replicate ops.size false) (fun _ => undef) a { w with drawn := w.drawn + 1 } hz
    ⟨⟨by simp, fun j oj _ hl => (by rw [getD_replicate_false] at hl; cases hl), fun t _ ht => getD_in (by simpa using ht) (getD_replicate_false _ _)⟩, (But.refl D w).drew, fun _ => (But.refl nil_ w).drew, fun j _ hl _ => (by rw [getD_replicate_false] at hl; cases hl), fun j C _ hl => (by rw [getD_replicate_false] at hl; cases hl), fun j k _ _ _ hl => (by rw [getD_replicate_false] at hl; cases hl), rfl, rfl, fun j t _ hl => (by rw [getD_replicate_false] at hl; cases hl), fun t _ => rfl⟩
  rwa [show N + (ops.size - N) = ops.size by omega] at this
end
end Go.Proofs.Ytndohmimcbmhdaa

/- The walk of a drawn region, operation by operation; what operations leave. -/
set_option linter.unusedVariables false
set_option linter.unusedSimpArgs false
namespace Go.Proofs.Ytndohmimcbmhdaa
open Go.RowKit

/-- A writing operation stands alone, or it is a store that waits for all stores ahead of it. -/
def mayStand (ops : Array Oper) (i : Nat) (sp : List Leaves) (s : Leaves) : Bool :=
  (!s.dirty || (s.isOwn && sp.all (fun x => !x.dirty)) || (s.isWr && (List.range sp.length).all fun j => match sp[j]? with | some x => !x.dirty || (x.isWr && waitsB ops i j) | none => true)) &&
  ((!s.isEarly || sp.all (fun x => !x.dirty)) && (!s.dirty || (List.range sp.length).all fun j => match sp[j]? with | some x => !x.isEarly || waitsB ops i j | none => true))
/-- What a store knows: nothing was written yet, or what the last store has left. -/
def before (sp : List Leaves) (s : Leaves) (w W : World) : Prop :=
  s.isWr = true → ((∀ (k : Nat) (x : Leaves), sp[k]? = some x → x.isWr = false) → But nil_ w W) ∧ (∀ (j : Nat) (C : World → Prop), sp[j]? = some (.write C) → (∀ (k : Nat) (x : Leaves), j < k → sp[k]? = some x → x.isWr = false) → C W)

/-- The operations of the head, one by one: i is the next one's number, sp what was told of those before, G the frame. -/
def wpTold (P : Program) (ops : Array Oper) (D : Nat → Prop) (w : World) (Q : List Leaves → ((Nat → Value) → Act) → Prop) : Nat → List Oper → List Leaves → ((Nat → Value) → Act) → Prop
  | _, [], sp, G => Q sp G
  | i, o :: rest, sp, G =>
    ((∀ vs, Region.wanted o (yielded ops (G vs).tmps) = true) ∧ ∃ s : Leaves, s.stable D w ∧ mayStand ops i sp s = true ∧
      (∀ vs W, But D w W → (s.isCalm = true → But nil_ w W) → before sp s w W → (∀ e ∈ o.after, Region.binds .any e = true → ∀ s', sp[e.on]? = some s' → (s'.isFrail = true → s.isOwn = true) → s'.okk W (vs e.on)) → looseUpon P (s.dis D) s W ((execOp (G vs).eval o).run P W)) ∧
      wpTold P ops D w Q (i + 1) rest (sp ++ [s]) (fun vs => (G vs).put o.dst (s.at (vs i)))) ∨
    ((∀ vs, Region.wanted o (yielded ops (G vs).tmps) = false) ∧ wpTold P ops D w Q (i + 1) rest (sp ++ [.val undef]) (fun vs => (G vs).put o.dst undef))

def listS (sp : List Leaves) : Nat → Leaves := fun j => sp.getD j (.val undef)

theorem lay_congr {ops : Array Oper} {a : Act} {S S' : Nat → Leaves} {vs : Nat → Value} : ∀ i, (∀ j, j < i → S j = S' j) → lay ops a S vs i = lay ops a S' vs i := by
  intro i
  induction i with
  | zero => intro _; rfl
  | succ i ih => intro h; rw [lay, lay, ih fun j hj => h j (by omega), h i (by omega)]

theorem lax_of_told {P : Program} {ops : Array Oper} {D : Nat → Prop} {w : World} {a : Act} {Q : List Leaves → ((Nat → Value) → Act) → Prop} : ∀ (rest : List Oper) (sp : List Leaves) (G : (Nat → Value) → Act),
    (∀ j, rest[j]? = if j < rest.length then ops[sp.length + j]? else none) → (∀ j, j < sp.length → (listS sp j).stable D w) →
    (∀ i j, i < sp.length → j < sp.length → (listS sp i).dirty = true → (listS sp j).dirty = true → i < j → (listS sp i).isWr = true ∧ (listS sp j).isWr = true ∧ waitsB ops j i = true) → (∀ i j, i < sp.length → j < sp.length → (listS sp i).isEarly = true → (listS sp j).dirty = true → i < j ∧ waitsB ops j i = true) → (∀ vs, G vs = lay ops a (listS sp) vs sp.length) →
    (∀ i o, i < sp.length → ops[i]? = some o →
      ((∀ vs, Region.wanted o (yielded ops (lay ops a (listS sp) vs i).tmps) = true) ∧ (∀ vs W, But D w W → ((listS sp i).isCalm = true → But nil_ w W) → Prev (listS sp) i w W → (∀ e ∈ o.after, Region.binds .any e = true → e.on < i → ((listS sp e.on).isFrail = true → (listS sp i).isOwn = true) → (listS sp e.on).okk W (vs e.on)) → looseUpon P ((listS sp i).dis D) (listS sp i) W ((execOp (lay ops a (listS sp) vs i).eval o).run P W))) ∨
      ((∀ vs, Region.wanted o (yielded ops (lay ops a (listS sp) vs i).tmps) = false) ∧ listS sp i = .val undef)) →
    wpTold P ops D w Q sp.length rest sp G → ∃ sp' G', Lax P ops (sp.length + rest.length) a D w (listS sp') ∧ sp'.length = sp.length + rest.length ∧ (∀ vs, G' vs = lay ops a (listS sp') vs sp'.length) ∧ Q sp' G' := by
  intro rest
  induction rest with
  | nil =>
    intro sp G _ hst hown hear hG hrun h
    exact ⟨sp, G, ⟨fun i o hi ho => hrun i o (by simpa using hi) ho, fun i hi => hst i (by simpa using hi), fun i j hi hj => hown i j (by simpa using hi) (by simpa using hj), fun i j hi hj => hear i j (by simpa using hi) (by simpa using hj)⟩, by simp, hG, h⟩
  | cons o rest ih =>
    intro sp G hl hst hown hear hG hrun h
    have ho : ops[sp.length]? = some o := by have := hl 0; simpa using this.symm
    have hl' : ∀ x : Leaves, ∀ j, rest[j]? = if j < rest.length then ops[(sp ++ [x]).length + j]? else none := fun x j => by
      have := hl (j + 1)
      simp only [List.getElem?_cons_succ, List.length_cons, Nat.add_lt_add_iff_right] at this
      rw [this]
      split
      · congr 1; simp; omega
      · rfl
    have hat : ∀ x : Leaves, ∀ j, j < sp.length → listS (sp ++ [x]) j = listS sp j := fun x j hj => by simp [listS, List.getElem?_append_left hj]
    have hend : ∀ x : Leaves, listS (sp ++ [x]) sp.length = x := fun x => by simp [listS]
    have key : ∀ x : Leaves, x.stable D w → mayStand ops sp.length sp x = true →
        (((∀ vs, Region.wanted o (yielded ops (G vs).tmps) = true) ∧ (∀ vs W, But D w W → (x.isCalm = true → But nil_ w W) → before sp x w W → (∀ e ∈ o.after, Region.binds .any e = true → ∀ s', sp[e.on]? = some s' → (s'.isFrail = true → x.isOwn = true) → s'.okk W (vs e.on)) → looseUpon P (x.dis D) x W ((execOp (G vs).eval o).run P W))) ∨ ((∀ vs, Region.wanted o (yielded ops (G vs).tmps) = false) ∧ x = .val undef)) →
        wpTold P ops D w Q (sp.length + 1) rest (sp ++ [x]) (fun vs => (G vs).put o.dst (x.at (vs sp.length))) →
        ∃ sp' G', Lax P ops (sp.length + (o :: rest).length) a D w (listS sp') ∧ sp'.length = sp.length + (o :: rest).length ∧ (∀ vs, G' vs = lay ops a (listS sp') vs sp'.length) ∧ Q sp' G' := by
      intro x hx hxo hr hn
      have hlen : (sp ++ [x]).length = sp.length + 1 := by simp
      have stands : ∀ j, j < sp.length → (listS sp j).dirty = true → x.dirty = true → (listS sp j).isWr = true ∧ x.isWr = true ∧ waitsB ops sp.length j = true := fun j hj hdj hdx => by
        have hse : sp[j]? = some (listS sp j) := by simp [listS, List.getElem?_eq_getElem hj]
        unfold mayStand at hxo
        rw [Bool.and_eq_true] at hxo
        have hxo := hxo.1
        simp only [Bool.or_eq_true, Bool.and_eq_true] at hxo
        rcases hxo with (h1 | ⟨_, h2⟩) | ⟨h1, h2⟩
        · rw [hdx] at h1; cases h1
        · have := List.all_eq_true.1 h2 (listS sp j) (List.mem_of_getElem? hse)
          rw [hdj] at this; cases this
        · have := List.all_eq_true.1 h2 j (List.mem_range.2 hj)
          rw [hse] at this
          simp only [hdj, Bool.not_true, Bool.false_or, Bool.and_eq_true] at this
          exact ⟨this.1, h1, this.2⟩
      have earlyS : ∀ j, j < sp.length → (listS sp j).isEarly = true → x.dirty = true → waitsB ops sp.length j = true := fun j hj hej hdx => by
        have hse : sp[j]? = some (listS sp j) := by simp [listS, List.getElem?_eq_getElem hj]
        unfold mayStand at hxo
        rw [Bool.and_eq_true, Bool.and_eq_true] at hxo
        have h2 := hxo.2.2
        rw [hdx, Bool.not_true, Bool.false_or] at h2
        have := List.all_eq_true.1 h2 j (List.mem_range.2 hj)
        rw [hse] at this
        simpa [hej] using this
      have noDirty : x.isEarly = true → ∀ j, j < sp.length → (listS sp j).dirty = false := fun hex j hj => by
        have hse : sp[j]? = some (listS sp j) := by simp [listS, List.getElem?_eq_getElem hj]
        unfold mayStand at hxo
        rw [Bool.and_eq_true, Bool.and_eq_true] at hxo
        have h2 := hxo.2.1
        rw [hex, Bool.not_true, Bool.false_or] at h2
        have := List.all_eq_true.1 h2 _ (List.mem_of_getElem? hse)
        simpa using this
      have := ih (sp ++ [x]) (fun vs => (G vs).put o.dst (x.at (vs sp.length))) (hl' x) (fun j hj => by
          by_cases e : j = sp.length
          · subst e; rw [hend]; exact hx
          · rw [hat x j (by rw [hlen] at hj; omega)]; exact hst j (by rw [hlen] at hj; omega))
        (fun i j hi hj hoi hoj hij => by
          rw [hlen] at hi hj
          by_cases ej : j = sp.length
          · subst ej
            rw [hend] at hoj
            rw [hat x i (by omega)] at hoi
            rw [hend, hat x i (by omega)]
            exact stands i (by omega) hoi hoj
          · rw [hat x i (by omega)] at hoi
            rw [hat x j (by omega)] at hoj
            rw [hat x i (by omega), hat x j (by omega)]
            exact hown i j (by omega) (by omega) hoi hoj hij)
        (fun i j hi hj hei hdj => by
          rw [hlen] at hi hj
          by_cases ej : j = sp.length
          · subst ej
            by_cases ei : i = sp.length
            · subst ei
              rw [hend] at hei hdj
              cases x <;> first | exact Bool.noConfusion hei | exact Bool.noConfusion hdj
            · rw [hend] at hdj
              rw [hat x i (by omega)] at hei
              exact ⟨by omega, earlyS i (by omega) hei hdj⟩
          · rw [hat x j (by omega)] at hdj
            by_cases ei : i = sp.length
            · subst ei
              rw [hend] at hei
              rw [noDirty hei j (by omega)] at hdj
              cases hdj
            · rw [hat x i (by omega)] at hei
              exact hear i j (by omega) (by omega) hei hdj)
        (fun vs => by
          rw [hlen, lay, hend, lay_congr sp.length (hat x), ← hG vs]
          simp [dstOf, ho])
        (fun i o' hi ho' => by
          rw [hlen] at hi
          by_cases e : i = sp.length
          · subst e
            obtain rfl : o = o' := Option.some.inj (ho.symm.trans ho')
            have hg : ∀ vs, lay ops a (listS (sp ++ [x])) vs sp.length = G vs := fun vs => by rw [lay_congr sp.length (hat x), ← hG vs]
            rw [hend]
            rcases hr with ⟨h1, h2⟩ | ⟨h1, h2⟩
            · refine .inl ⟨fun vs => by rw [hg]; exact h1 vs, fun vs W hW hcm hpv hd => ?_⟩
              rw [hg]
              refine h2 vs W hW hcm (fun hw => ?_) fun e he hb s' hs' hfr => ?_
              · have hw' : (listS (sp ++ [x]) sp.length).isWr = true := by rw [hend]; exact hw
                obtain ⟨p1, p2⟩ := hpv hw'
                have hin : ∀ k, k < sp.length → sp[k]? = some (listS sp k) := fun k hk => by simp [listS, List.getElem?_eq_getElem hk]
                refine ⟨fun hno => p1 fun k hk => ?_, fun j C hC hno => ?_⟩
                · rw [hat x k hk]; exact hno k _ (hin k hk)
                · have hj : j < sp.length := (List.getElem?_eq_some_iff.1 hC).1
                  refine p2 j C hj ?_ fun k h1 h2 => ?_
                  · rw [hat x j hj]
                    simp [listS, hC]
                  · rw [hat x k h2]; exact hno k _ h1 (hin k h2)
              have hlt : e.on < sp.length := (List.getElem?_eq_some_iff.1 hs').1
              have hse : listS sp e.on = s' := by simp [listS, hs']
              have := hd e he hb hlt
              rw [hat x _ hlt, hse] at this
              exact this hfr
            · exact .inr ⟨fun vs => by rw [hg]; exact h1 vs, h2⟩
          · have hi' : i < sp.length := by omega
            have hc : ∀ vs, lay ops a (listS (sp ++ [x])) vs i = lay ops a (listS sp) vs i := fun vs => lay_congr i fun j hj => hat x j (by omega)
            rw [hat x i hi']
            rcases hrun i o' hi' ho' with ⟨h1, h2⟩ | ⟨h1, h2⟩
            · refine .inl ⟨fun vs => by rw [hc]; exact h1 vs, fun vs W hW hcm hpv hd => ?_⟩
              rw [hc]
              refine h2 vs W hW hcm (fun hw => ?_) fun e he hb hlt hfr => by have := hd e he hb hlt; rw [hat x _ (by omega)] at this; exact this hfr
              have hw' : (listS (sp ++ [x]) i).isWr = true := by rw [hat x i hi']; exact hw
              obtain ⟨p1, p2⟩ := hpv hw'
              refine ⟨fun hno => p1 fun k hk => ?_, fun j C hj hC hno => p2 j C hj ?_ fun k h1 h2 => ?_⟩
              · rw [hat x k (by omega)]; exact hno k hk
              · rw [hat x j (by omega)]; exact hC
              · rw [hat x k (by omega)]; exact hno k h1 h2
            · exact .inr ⟨fun vs => by rw [hc]; exact h1 vs, h2⟩)
        (by rw [hlen]; exact hn)
      obtain ⟨sp', G', h1, h2, h3, h4⟩ := this
      have e : (sp ++ [x]).length + rest.length = sp.length + (o :: rest).length := by simp; omega
      rw [e] at h1 h2
      exact ⟨sp', G', h1, h2, h3, h4⟩
    rcases h with ⟨hw, s, hs, hso, hr, hn⟩ | ⟨hw, hn⟩
    · exact key s hs hso (.inl ⟨hw, hr⟩) hn
    · exact key (.val undef) trivial rfl (.inr ⟨hw, rfl⟩) hn

theorem wpTold_mono {P : Program} {ops : Array Oper} {D : Nat → Prop} {w : World} {Q Q' : List Leaves → ((Nat → Value) → Act) → Prop} (hQ : ∀ sp G, Q sp G → Q' sp G) : ∀ (l : List Oper) (i : Nat) (sp : List Leaves) (G : (Nat → Value) → Act), wpTold P ops D w Q i l sp G → wpTold P ops D w Q' i l sp G := by
  intro l
  induction l with
  | nil => intro i sp G h; exact hQ sp G h
  | cons o l ih =>
    intro i sp G h
    rcases h with ⟨hw, s, h1, h2, h3, h4⟩ | ⟨hw, h4⟩
    · exact .inl ⟨hw, s, h1, h2, h3, ih _ _ _ h4⟩
    · exact .inr ⟨hw, ih _ _ _ h4⟩

/-- **A drawn region, told one by one**: N operations make the head; those behind it (stores) come in order. -/
theorem wp_region_toldw {P : Program} {id : Nat} {Q : Exit → Act → World → Prop} {a : Act} {w : World} {l : List Oper} (N : Nat) (D : Nat → Prop) (hm : P.follows .mixedOrders = true) (hB : looseB l.toArray N = true)
    (h : wpTold P l.toArray D w (fun sp G => ∀ vs W, But D w W → (∀ (j : Nat) (s : Leaves), sp[j]? = some s → s.isFrail = false → s.okk W (vs j)) → (∀ (j k : Nat) (s s' : Leaves), sp[j]? = some s → sp[k]? = some s' → j ≠ k → s.isFresh = true → s'.isFresh = true → blockOf (vs j) ≠ blockOf (vs k)) → (∀ (j : Nat) (C : World → Prop), sp[j]? = some (.write C) → (∀ (k : Nat) (x : Leaves), j < k → sp[k]? = some x → x.isWr = false) → C W) → wpList P l.toArray Q (l.drop N) (G vs) W) 0 (l.take N) [] (fun _ => a)) : (Code.region id l.toArray true).wp P Q a w := by
  obtain ⟨_, hN, _⟩ := looseB_parts hB
  have hN' : N ≤ l.length := by simpa using hN
  obtain ⟨sp, G, hL, hlen, hG, hQ⟩ := lax_of_told (a := a) (l.take N) [] (fun _ => a) (fun j => by
      simp only [List.length_nil, Nat.zero_add, List.length_take, List.getElem?_toArray]
      by_cases h : j < N
      · rw [List.getElem?_take_of_lt h]
        split
        · rfl
        · rw [List.getElem?_eq_none (by omega)]
      · rw [List.getElem?_eq_none (by simp; omega), if_neg (by omega)]) (fun j hj => absurd hj (by simp)) (fun i j hi => absurd hi (by simp)) (fun i j hi => absurd hi (by simp)) (fun vs => rfl) (fun i o hi => absurd hi (by simp)) h
  have e : ([] : List Leaves).length + (l.take N).length = N := by simp; omega
  rw [e] at hL hlen
  refine wp_region_lax hm hB hL fun vs W hW hok hap hwr => ?_
  have := hQ vs W hW (fun j s hs hf => by
    have hj : j < N := by have := (List.getElem?_eq_some_iff.1 hs).1; omega
    have hse : listS sp j = s := by simp [listS, hs]
    have := hok j hj
    rw [hse] at this
    exact this hf) (fun j k s s' hs hs' hne hf hf' => by
    have hj : j < N := by have := (List.getElem?_eq_some_iff.1 hs).1; omega
    have hk : k < N := by have := (List.getElem?_eq_some_iff.1 hs').1; omega
    have e1 : listS sp j = s := by simp [listS, hs]
    have e2 : listS sp k = s' := by simp [listS, hs']
    exact hap j k hj hk hne (by rw [e1]; exact hf) (by rw [e2]; exact hf')) (fun j C hC hno => by
    have hj : j < N := by have := (List.getElem?_eq_some_iff.1 hC).1; omega
    refine hwr j C hj (by simp [listS, hC]) fun k hk hkw => ?_
    rcases Nat.lt_or_ge j k with h1 | h1
    · have hks : sp[k]? = some (listS sp k) := by simp [listS, List.getElem?_eq_getElem (show k < sp.length by omega)]
      have := hno k _ h1 hks
      rw [hkw] at this; cases this
    · exact h1)
  rw [hG vs, hlen] at this
  exact this

/-- **A drawn region, told one by one**: N operations make the head; those behind it (stores) come in order. -/
theorem wp_region_told {P : Program} {id : Nat} {Q : Exit → Act → World → Prop} {a : Act} {w : World} {l : List Oper} (N : Nat) (D : Nat → Prop) (hm : P.follows .mixedOrders = true) (hB : looseB l.toArray N = true)
    (h : wpTold P l.toArray D w (fun sp G => ∀ vs W, But D w W → (∀ (j : Nat) (s : Leaves), sp[j]? = some s → s.isFrail = false → s.okk W (vs j)) → (∀ (j k : Nat) (s s' : Leaves), sp[j]? = some s → sp[k]? = some s' → j ≠ k → s.isFresh = true → s'.isFresh = true → blockOf (vs j) ≠ blockOf (vs k)) → wpList P l.toArray Q (l.drop N) (G vs) W) 0 (l.take N) [] (fun _ => a)) : (Code.region id l.toArray true).wp P Q a w :=
  wp_region_toldw N D hm hB (wpTold_mono (fun sp G hq vs W hW hok hap _ => hq vs W hW hok hap) _ _ _ _ h)

section
variable {P : Program} {ops : Array Oper} {D : Nat → Prop} {w : World} {Q : List Leaves → ((Nat → Value) → Act) → Prop} {i : Nat} {o : Oper} {rest : List Oper} {sp : List Leaves} {G : (Nat → Value) → Act}
theorem loose_val {D' : Nat → Prop} {v : Value} {W : World} : looseUpon P D' (.val v) W (.ok (.value v) W) := ⟨But.refl _ _, rfl, trivial⟩
theorem loose_rel {D' : Nat → Prop} {R : World → Value → Prop} {v : Value} {W W' : World} (hb : But D' W W') (h : R W' v) : looseUpon P D' (.rel R) W (.ok (.value v) W') := ⟨hb, h, trivial⟩
theorem loose_call {f : FuncId} {args : Array Value} {v : Value} {W : World} (h : Calls P f args W fun e w' => e = .returned v ∧ Below W.heap.size W w') : looseUpon P nil_ (.val v) W (.ok (.enter f args) W) :=
  h.mono fun _ _ ⟨he, hb⟩ => ⟨v, he, (But.refl _ _).below hb, rfl, trivial⟩
theorem loose_same {f : FuncId} {args : Array Value} {v : Value} {W : World} (h : Calls P f args W fun e w' => e = .returned v ∧ W = w') : looseUpon P nil_ (.val v) W (.ok (.enter f args) W) :=
  h.mono fun _ _ ⟨he, hb⟩ => ⟨v, he, by subst hb; exact But.refl _ _, rfl, trivial⟩
theorem loose_callR {f : FuncId} {args : Array Value} {R : World → Value → Prop} {W : World} (h : Calls P f args W fun e w' => ∃ v, e = .returned v ∧ R w' v ∧ Below W.heap.size W w') : looseUpon P nil_ (.rel R) W (.ok (.enter f args) W) :=
  h.mono fun _ _ ⟨v, he, hr, hb⟩ => ⟨v, he, (But.refl _ _).below hb, hr, trivial⟩
theorem told_nil (h : Q sp G) : wpTold P ops D w Q i [] sp G := h
/-- It yields one value, in every world. -/
theorem told_val {v : Value} (hw : ∀ vs, Region.wanted o (yielded ops (G vs).tmps) = true) (hr : ∀ vs W, But D w W → looseUpon P nil_ (.val v) W ((execOp (G vs).eval o).run P W))
    (h : wpTold P ops D w Q (i + 1) rest (sp ++ [.val v]) (fun vs => (G vs).put o.dst v)) : wpTold P ops D w Q i (o :: rest) sp G :=
  .inl ⟨hw, .val v, trivial, rfl, fun vs W hW _ _ _ => hr vs W hW, h⟩
/-- The same, from what it waits for. -/
theorem told_val' {v : Value} (hw : ∀ vs, Region.wanted o (yielded ops (G vs).tmps) = true)
    (hr : ∀ vs W, But D w W → (∀ e ∈ o.after, Region.binds .any e = true → ∀ s', sp[e.on]? = some s' → (s'.isFrail = true → false = true) → s'.okk W (vs e.on)) → looseUpon P nil_ (.val v) W ((execOp (G vs).eval o).run P W))
    (h : wpTold P ops D w Q (i + 1) rest (sp ++ [.val v]) (fun vs => (G vs).put o.dst v)) : wpTold P ops D w Q i (o :: rest) sp G :=
  .inl ⟨hw, .val v, trivial, rfl, fun vs W hW _ _ hd => hr vs W hW hd, h⟩
/-- What it yields is told by a relation. -/
theorem told_rel (R : World → Value → Prop) (hs : (Leaves.rel R).stable D w) (hw : ∀ vs, Region.wanted o (yielded ops (G vs).tmps) = true)
    (hr : ∀ vs W, But D w W → (∀ e ∈ o.after, Region.binds .any e = true → ∀ s', sp[e.on]? = some s' → (s'.isFrail = true → false = true) → s'.okk W (vs e.on)) → looseUpon P nil_ (.rel R) W ((execOp (G vs).eval o).run P W))
    (h : wpTold P ops D w Q (i + 1) rest (sp ++ [.rel R]) (fun vs => (G vs).put o.dst (vs i))) : wpTold P ops D w Q i (o :: rest) sp G :=
  .inl ⟨hw, .rel R, hs, rfl, fun vs W hW _ _ hd => hr vs W hW hd, h⟩
/-- It writes a row of the call's own. -/
theorem told_own (R : World → Value → Prop) (hs : (Leaves.own R).stable D w) (hno : mayStand ops i sp (.own R) = true) (hw : ∀ vs, Region.wanted o (yielded ops (G vs).tmps) = true)
    (hr : ∀ vs W, But nil_ w W → (∀ e ∈ o.after, Region.binds .any e = true → ∀ s', sp[e.on]? = some s' → (s'.isFrail = true → true = true) → s'.okk W (vs e.on)) → looseUpon P D (.own R) W ((execOp (G vs).eval o).run P W))
    (h : wpTold P ops D w Q (i + 1) rest (sp ++ [.own R]) (fun vs => (G vs).put o.dst (vs i))) : wpTold P ops D w Q i (o :: rest) sp G :=
  .inl ⟨hw, .own R, hs, hno, fun vs W _ hc _ hd => hr vs W (hc rfl) hd, h⟩
theorem told_frail (R : World → Value → Prop) (hs : (Leaves.frail R).stable D w) (hw : ∀ vs, Region.wanted o (yielded ops (G vs).tmps) = true)
    (hr : ∀ vs W, But D w W → (∀ e ∈ o.after, Region.binds .any e = true → ∀ s', sp[e.on]? = some s' → (s'.isFrail = true → false = true) → s'.okk W (vs e.on)) → looseUpon P nil_ (.frail R) W ((execOp (G vs).eval o).run P W))
    (h : wpTold P ops D w Q (i + 1) rest (sp ++ [.frail R]) (fun vs => (G vs).put o.dst (vs i))) : wpTold P ops D w Q i (o :: rest) sp G :=
  .inl ⟨hw, .frail R, hs, rfl, fun vs W hW _ _ hd => hr vs W hW hd, h⟩
theorem loose_frail {D' : Nat → Prop} {R : World → Value → Prop} {v : Value} {W W' : World} (hb : But D' W W') (h : R W' v) : looseUpon P D' (.frail R) W (.ok (.value v) W') := ⟨hb, h, trivial⟩
theorem loose_own {D' : Nat → Prop} {R : World → Value → Prop} {v : Value} {W W' : World} (hb : But D' W W') (h : R W' v) : looseUpon P D' (.own R) W (.ok (.value v) W') := ⟨hb, h, trivial⟩
/-- It yields a value that is read ahead of all stores. -/
theorem told_early {v : Value} (hno : mayStand ops i sp (.early v) = true) (hw : ∀ vs, Region.wanted o (yielded ops (G vs).tmps) = true) (hr : ∀ vs W, But nil_ w W → looseUpon P nil_ (.early v) W ((execOp (G vs).eval o).run P W))
    (h : wpTold P ops D w Q (i + 1) rest (sp ++ [.early v]) (fun vs => (G vs).put o.dst v)) : wpTold P ops D w Q i (o :: rest) sp G :=
  .inl ⟨hw, .early v, trivial, hno, fun vs W _ hc _ _ => hr vs W (hc rfl), h⟩
theorem loose_early {D' : Nat → Prop} {v : Value} {W : World} : looseUpon P D' (.early v) W (.ok (.value v) W) := ⟨But.refl _ _, rfl, trivial⟩
theorem loose_of_val {v : Value} {W : World} {r : Result Next} (h : looseUpon P nil_ (.val v) W r) : looseUpon P nil_ (.early v) W r := h
theorem noWr_of {sp : List Leaves} {j : Nat} (h : (sp.drop (j + 1)).all (fun x => !x.isWr) = true) : ∀ (k : Nat) (x : Leaves), j < k → sp[k]? = some x → x.isWr = false := fun k x hk hx => by
  have hm : x ∈ sp.drop (j + 1) := List.mem_of_getElem? (i := k - (j + 1)) (by rw [List.getElem?_drop, show j + 1 + (k - (j + 1)) = k by omega]; exact hx)
  have := List.all_eq_true.1 h x hm
  simpa using this
/-- A store, the first. -/
theorem told_write0 (C : World → Prop) (hs : (Leaves.write C).stable D w) (hno : mayStand ops i sp (.write C) = true) (h0 : sp.all (fun x => !x.isWr) = true) (hw : ∀ vs, Region.wanted o (yielded ops (G vs).tmps) = true)
    (hr : ∀ vs W, But nil_ w W → (∀ e ∈ o.after, Region.binds .any e = true → ∀ s', sp[e.on]? = some s' → (s'.isFrail = true → false = true) → s'.okk W (vs e.on)) → looseUpon P D (.write C) W ((execOp (G vs).eval o).run P W))
    (h : wpTold P ops D w Q (i + 1) rest (sp ++ [.write C]) (fun vs => (G vs).put o.dst undef)) : wpTold P ops D w Q i (o :: rest) sp G :=
  .inl ⟨hw, .write C, hs, hno, fun vs W hW _ hb hd => hr vs W ((hb rfl).1 fun k x hx => by simpa using List.all_eq_true.1 h0 x (List.mem_of_getElem? hx)) hd, h⟩
/-- A store behind another one, the j-th operation. -/
theorem told_write1 (j : Nat) (C0 C : World → Prop) (hj : sp[j]? = some (.write C0)) (h1 : (sp.drop (j + 1)).all (fun x => !x.isWr) = true) (hs : (Leaves.write C).stable D w) (hno : mayStand ops i sp (.write C) = true) (hw : ∀ vs, Region.wanted o (yielded ops (G vs).tmps) = true)
    (hr : ∀ vs W, But D w W → C0 W → (∀ e ∈ o.after, Region.binds .any e = true → ∀ s', sp[e.on]? = some s' → (s'.isFrail = true → false = true) → s'.okk W (vs e.on)) → looseUpon P D (.write C) W ((execOp (G vs).eval o).run P W))
    (h : wpTold P ops D w Q (i + 1) rest (sp ++ [.write C]) (fun vs => (G vs).put o.dst undef)) : wpTold P ops D w Q i (o :: rest) sp G :=
  .inl ⟨hw, .write C, hs, hno, fun vs W hW _ hb hd => hr vs W hW ((hb rfl).2 j C0 hj (noWr_of h1)) hd, h⟩
theorem loose_write {D' : Nat → Prop} {C : World → Prop} {W W' : World} (hb : But D' W W') (h : C W') : looseUpon P D' (.write C) W (.ok .skip W') := ⟨hb, ⟨rfl, h⟩, trivial⟩
/-- A new block. -/
theorem told_fresh (R : World → Value → Prop) (hs : (Leaves.fresh R).stable D w) (hw : ∀ vs, Region.wanted o (yielded ops (G vs).tmps) = true)
    (hr : ∀ vs W, But D w W → (∀ e ∈ o.after, Region.binds .any e = true → ∀ s', sp[e.on]? = some s' → (s'.isFrail = true → false = true) → s'.okk W (vs e.on)) → looseUpon P nil_ (.fresh R) W ((execOp (G vs).eval o).run P W))
    (h : wpTold P ops D w Q (i + 1) rest (sp ++ [.fresh R]) (fun vs => (G vs).put o.dst (vs i))) : wpTold P ops D w Q i (o :: rest) sp G :=
  .inl ⟨hw, .fresh R, hs, rfl, fun vs W hW _ _ hd => hr vs W hW hd, h⟩
theorem told_off (hw : ∀ vs, Region.wanted o (yielded ops (G vs).tmps) = false) (h : wpTold P ops D w Q (i + 1) rest (sp ++ [.val undef]) (fun vs => (G vs).put o.dst undef)) : wpTold P ops D w Q i (o :: rest) sp G := .inr ⟨hw, h⟩
end
end Go.Proofs.Ytndohmimcbmhdaa
