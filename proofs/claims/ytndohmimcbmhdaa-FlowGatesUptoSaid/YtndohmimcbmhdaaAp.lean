/- append among the operations of a drawn region; new blocks. -/
import Derived.Test.YtndohmimcbmhdaaLa
set_option linter.unusedVariables false
set_option linter.unusedSimpArgs false
namespace Go.Proofs.Ytndohmimcbmhdaa
open Go.RowKit Go.Sort

theorem loose_append {P : Program} {D' : Nat → Prop} {sp : Leaves} {o : Oper} {a : Act} (w : World) (s x : Operand) (t : TypeId)
    (ho : o.op = .call { callee := .builtin .append, args := #[s, x], argTypes := #[t, t] })
    (base : Nat) (e : TypeId) (i : TypeInfo) (z : Value) (size bytes : Nat) (ht : P.underlying t = some (.slice e)) (hi : P.info? e = some i) (hz : i.zero = some z)
    (hsize : i.size = size) (hby : i.bytes = bytes) (hzs : z.cells.size = size) (hsz : 0 < size)
    (v : Value) (n : Nat) (xs : List Value) (hs : a.eval s = v) (hown : w.ownsRow base e size v n xs)
    (B : Nat) (A : Option Addr) (m c : Nat) (news : List Value) (hx : a.eval x = .slice A m c) (hr : Reads w B size A m news) (h1 : ∀ u ∈ news, u.oneCell' = true)
    (h63 : n + m ≤ maxLen) (hbytes : (n + m) * bytes ≤ 140737488355328) (hbase : base ≤ w.heap.size)
    (k : ∀ v' w', w'.ownsRow base e size v' (n + m) (xs ++ news) → w.grownBy w' v.ownBlock → (v'.ownBlock = v.ownBlock ∨ v'.ownBlock = some w.heap.size) → But D' w w' ∧ sp.ok w' v' ∧ sp.born w v') :
    looseUpon P D' sp w ((execOp a.eval o).run P w) := by
  obtain ⟨v', w', hrun, h2, h3, h4⟩ := run_append_any (P := P) w base t o.type e i z size bytes ht hi hz hsize hby hzs hsz v n xs hown B A m c news hr h1 h63 hbytes hbase
  unfold execOp
  simp only [ho, resolve, invoke, builtin, Sem.run_bind, Sem.run_pure, Result.andThen_ok, List.map_toArray, List.map_cons, List.map_nil, hs, hx, hrun]
  exact k v' w' h2 h3 h4

/-- A new block of those cells. -/
def NewPtr (B : Nat) (t : TypeId) (cs : Array Value) (W : World) (v : Value) : Prop := ∃ b, v = .pointer (some ⟨b, 0, none⟩) ∧ B ≤ b ∧ Blk W b t cs
def NewSl (B : Nat) (t : TypeId) (n : Nat) (cs : Array Value) (W : World) (v : Value) : Prop := ∃ b, v = .slice (some ⟨b, 0, none⟩) n n ∧ B ≤ b ∧ Blk W b t cs
theorem NewPtr.stable {B : Nat} {t : TypeId} {cs : Array Value} {D : Nat → Prop} {w : World} (hD : ∀ k, D k → k < B) : (Leaves.rel (NewPtr B t cs)).stable D w :=
  fun _ _ _ _ hb ⟨b, e, hB, hk⟩ => ⟨b, e, hB, hb.blk hk (fun hd => by have := hD b hd; omega)⟩
theorem NewSl.stable {B : Nat} {t : TypeId} {n : Nat} {cs : Array Value} {D : Nat → Prop} {w : World} (hD : ∀ k, D k → k < B) : (Leaves.rel (NewSl B t n cs)).stable D w :=
  fun _ _ _ _ hb ⟨b, e, hB, hk⟩ => ⟨b, e, hB, hb.blk hk (fun hd => by have := hD b hd; omega)⟩
theorem loose_newPtr {P : Program} {B : Nat} {t : TypeId} {cs : Array Value} {W : World} (hB : B ≤ W.heap.size) : looseUpon P nil_ (.rel (NewPtr B t cs)) W (.ok (.value (.pointer (some ⟨W.heap.size, 0, none⟩))) (W.alloc (.cells cs t))) :=
  ⟨(But.refl _ _).alloc _, ⟨_, rfl, hB, Blk.new W t cs⟩, trivial⟩
theorem loose_newSl {P : Program} {B : Nat} {t : TypeId} {n : Nat} {cs : Array Value} {W : World} (hB : B ≤ W.heap.size) : looseUpon P nil_ (.rel (NewSl B t n cs)) W (.ok (.value (.slice (some ⟨W.heap.size, 0, none⟩) n n)) (W.alloc (.cells cs t))) :=
  ⟨(But.refl _ _).alloc _, ⟨_, rfl, hB, Blk.new W t cs⟩, trivial⟩

theorem NewPtr.fresh {B : Nat} {t : TypeId} {cs : Array Value} {D : Nat → Prop} {w : World} (hD : ∀ k, D k → k < B) : (Leaves.fresh (NewPtr B t cs)).stable D w :=
  fun _ _ _ _ hb ⟨b, e, hB, hk⟩ => ⟨b, e, hB, hb.blk hk (fun hd => by have := hD b hd; omega)⟩
theorem loose_freshPtr {P : Program} {B : Nat} {t : TypeId} {cs : Array Value} {W : World} (hB : B ≤ W.heap.size) : looseUpon P nil_ (.fresh (NewPtr B t cs)) W (.ok (.value (.pointer (some ⟨W.heap.size, 0, none⟩))) (W.alloc (.cells cs t))) :=
  ⟨(But.refl _ _).alloc _, ⟨⟨_, rfl, hB, Blk.new W t cs⟩, _, rfl, by simp⟩, _, rfl, Nat.le_refl _⟩
/-- Of the new blocks alone. -/
def over (B : Nat) : Nat → Prop := fun k => B ≤ k
theorem But.over_below {w W : World} (h : But (over w.heap.size) w W) : Below w.heap.size w W := ⟨h.os, h.tape, h.output, h.size, fun i hi => h.block i hi (fun hd => by unfold over at hd; omega)⟩
theorem But.over_of {w W : World} (h : Below w.heap.size w W) : But (over w.heap.size) w W := ⟨h.os, h.tape, h.output, h.size, fun i hi _ => h.block i hi⟩
theorem ownRow_frail {B e size n : Nat} {xs : List Value} {D : Nat → Prop} {w : World} : (Leaves.frail (fun W v => World.ownsRow W B e size v n xs)).stable D w :=
  fun _ _ _ _ hb h => World.ownsRow.kept (row := none) h (only_of_below (since_below hb (Nat.le_refl _)) none) (by cases Value.ownBlock _ <;> simp)
theorem ownCats_own {B : Nat} {cs : List (Int × Int)} {D : Nat → Prop} {w : World} : (Leaves.own (fun W v => OwnCats W B v cs)).stable D w :=
  fun _ _ _ _ hb h => h.below (since_below hb (Nat.le_refl _))
theorem ownCats_rel {B : Nat} {cs : List (Int × Int)} {w : World} : (Leaves.rel (fun W v => OwnCats W B v cs)).stable nil_ w :=
  fun _ _ _ _ hb h => h.below (since_below hb (Nat.le_refl _))
/-- A label with categories of the call's own. -/
def OwnLab (B : Nat) (d : Int) (cs : List (Int × Int)) (W : World) (v : Value) : Prop := ∃ A n c, v = .agg #[.int .i64 d, .slice A n c] ∧ OwnCats W B (.slice A n c) cs
theorem OwnLab.frail {B : Nat} {d : Int} {cs : List (Int × Int)} {D : Nat → Prop} {w : World} : (Leaves.frail (OwnLab B d cs)).stable D w :=
  fun _ _ _ _ hb ⟨A, n, c, e, h⟩ => ⟨A, n, c, e, h.below (since_below hb (Nat.le_refl _))⟩
end Go.Proofs.Ytndohmimcbmhdaa
