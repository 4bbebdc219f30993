/- Things in memory: twenty-six cells each. -/
import Derived.Test.YtpobkbedablfeaaProg
import Derived.Test.YtpobkbedablfeaaWords
import Derived.Test.YtpobkbedablfeaaFrame
import Derived.BigRegion
import Derived.BigQuiet
import Derived.Great.Walk
import Derived.Great.BuildSlice
import Derived.Deep.WholeRow

namespace Go.Proofs.Ytpobkbedablfeaa
open Go.RowKit
theorem hidI {p : Prop} (h : p) : Hid p := h
theorem ret_i64 {a b : Int} (h : a = b) : Ending.returned (.int .i64 a) = Ending.returned (.int .i64 b) := by rw [h]
theorem ret_u64 {a b : Int} (h : a = b) : Ending.returned (.int .u64 a) = Ending.returned (.int .u64 b) := by rw [h]
theorem ret_bool {a b : Bool} (h : a = b) : Ending.returned (.bool a) = Ending.returned (.bool b) := by rw [h]


/-- A slice's three parts. -/
structure Sl where
  a : Option Addr
  n : Nat
  c : Nat
def Sl.v (s : Sl) : Value := .slice s.a s.n s.c

structure Th where
  id : Int
  kind : Int
  d1 : Int
  l1 : Sl
  d2 : Int
  l2 : Sl
  quota : Int
  next : Int
  links : Sl
  data : Sl
  r0 : Int
  r1 : Int
  r2 : Int
  r3 : Int
  minted : Int
  boot : Int
  halt : Bool
  value : Int
  s0 : Int
  s1 : Int
  s2 : Int
  s3 : Int
  s4 : Int
  s5 : Int
  s6 : Int
  s7 : Int

def Th.cells (t : Th) : List Value :=
  [.int .u64 t.id, .int .i64 t.kind, .int .i64 t.d1, .slice t.l1.a t.l1.n t.l1.c, .int .i64 t.d2, .slice t.l2.a t.l2.n t.l2.c, .int .i64 t.quota, .int .i64 t.next, .slice t.links.a t.links.n t.links.c, .slice t.data.a t.data.n t.data.c,
   .int .u64 t.r0, .int .u64 t.r1, .int .u64 t.r2, .int .u64 t.r3, .int .i64 t.minted, .int .i64 t.boot, .bool t.halt, .int .u64 t.value, .int .u64 t.s0, .int .u64 t.s1, .int .u64 t.s2, .int .u64 t.s3, .int .u64 t.s4, .int .u64 t.s5, .int .u64 t.s6, .int .u64 t.s7]

/-- A slice value that reads as things, below block B. -/
structure ThingsAt (w : World) (B : Nat) (A : Option Addr) (n c : Nat) (ts : List Th) : Prop where
  len : ts.length = n
  cap : n ≤ c
  max : c ≤ maxLen
  cells : 0 < n → ∃ b off, A = some ⟨b, off, none⟩ ∧ b < B ∧ ∀ i t, ts[i]? = some t → ∀ j v, t.cells[j]? = some v → w.cell? ⟨b, off + i * 26 + j, none⟩ = some v

theorem ThingsAt.below {w w' : World} {B : Nat} {A : Option Addr} {n c : Nat} {ts : List Th} (h : ThingsAt w B A n c ts) (hb : Below B w w') : ThingsAt w' B A n c ts :=
  ⟨h.len, h.cap, h.max, fun hn => by
    obtain ⟨b, off, e, hB, hc⟩ := h.cells hn
    exact ⟨b, off, e, hB, fun i x hx j v hv => (hb.cell (p := ⟨b, off + i * 26 + j, none⟩) hB).trans (hc i x hx j v hv)⟩⟩
theorem ThingsAt.more {w : World} {B B' : Nat} {A : Option Addr} {n c : Nat} {ts : List Th} (h : ThingsAt w B A n c ts) (hB : B ≤ B') : ThingsAt w B' A n c ts :=
  ⟨h.len, h.cap, h.max, fun hn => by
    obtain ⟨b, off, e, hb, hc⟩ := h.cells hn
    exact ⟨b, off, e, by omega, hc⟩⟩
theorem ThingsAt.at_ {w : World} {B : Nat} {A : Option Addr} {n c : Nat} {ts : List Th} (h : ThingsAt w B A n c ts) {k : Nat} (hk : k < n) :
    ∃ b off t, A = some ⟨b, off, none⟩ ∧ b < B ∧ ts[k]? = some t ∧ ∀ j v, t.cells[j]? = some v → w.cell? ⟨b, off + k * 26 + j, none⟩ = some v := by
  obtain ⟨b, off, e, hb, hc⟩ := h.cells (by omega)
  have hx := List.getElem?_eq_getElem (l := ts) (i := k) (by have := h.len; omega)
  exact ⟨b, off, _, e, hb, hx, hc _ _ hx⟩

theorem thing_facts {w : World} {b o : Nat} {t : Th} (hc : ∀ j v, t.cells[j]? = some v → w.cell? ⟨b, o + j, none⟩ = some v) :
    (w.cell? ⟨b, o, none⟩ = some (.int .u64 t.id) ∧ w.cell? ⟨b, o + 1, none⟩ = some (.int .i64 t.kind) ∧ w.cell? ⟨b, o + 2, none⟩ = some (.int .i64 t.d1) ∧ w.cell? ⟨b, o + 3, none⟩ = some (.slice t.l1.a t.l1.n t.l1.c) ∧
     w.cell? ⟨b, o + 4, none⟩ = some (.int .i64 t.d2) ∧ w.cell? ⟨b, o + 5, none⟩ = some (.slice t.l2.a t.l2.n t.l2.c) ∧ w.cell? ⟨b, o + 6, none⟩ = some (.int .i64 t.quota) ∧ w.cell? ⟨b, o + 7, none⟩ = some (.int .i64 t.next) ∧
     w.cell? ⟨b, o + 8, none⟩ = some (.slice t.links.a t.links.n t.links.c) ∧ w.cell? ⟨b, o + 9, none⟩ = some (.slice t.data.a t.data.n t.data.c)) ∧
    (w.cell? ⟨b, o + 10, none⟩ = some (.int .u64 t.r0) ∧ w.cell? ⟨b, o + 11, none⟩ = some (.int .u64 t.r1) ∧ w.cell? ⟨b, o + 12, none⟩ = some (.int .u64 t.r2) ∧ w.cell? ⟨b, o + 13, none⟩ = some (.int .u64 t.r3) ∧
     w.cell? ⟨b, o + 14, none⟩ = some (.int .i64 t.minted) ∧ w.cell? ⟨b, o + 15, none⟩ = some (.int .i64 t.boot) ∧ w.cell? ⟨b, o + 16, none⟩ = some (.bool t.halt) ∧ w.cell? ⟨b, o + 17, none⟩ = some (.int .u64 t.value)) ∧
    (w.cell? ⟨b, o + 18, none⟩ = some (.int .u64 t.s0) ∧ w.cell? ⟨b, o + 19, none⟩ = some (.int .u64 t.s1) ∧ w.cell? ⟨b, o + 20, none⟩ = some (.int .u64 t.s2) ∧ w.cell? ⟨b, o + 21, none⟩ = some (.int .u64 t.s3) ∧
     w.cell? ⟨b, o + 22, none⟩ = some (.int .u64 t.s4) ∧ w.cell? ⟨b, o + 23, none⟩ = some (.int .u64 t.s5) ∧ w.cell? ⟨b, o + 24, none⟩ = some (.int .u64 t.s6) ∧ w.cell? ⟨b, o + 25, none⟩ = some (.int .u64 t.s7)) := by
  refine ⟨⟨hc 0 _ rfl, hc 1 _ rfl, hc 2 _ rfl, hc 3 _ rfl, hc 4 _ rfl, hc 5 _ rfl, hc 6 _ rfl, hc 7 _ rfl, hc 8 _ rfl, hc 9 _ rfl⟩,
    ⟨hc 10 _ rfl, hc 11 _ rfl, hc 12 _ rfl, hc 13 _ rfl, hc 14 _ rfl, hc 15 _ rfl, hc 16 _ rfl, hc 17 _ rfl⟩,
    ⟨hc 18 _ rfl, hc 19 _ rfl, hc 20 _ rfl, hc 21 _ rfl, hc 22 _ rfl, hc 23 _ rfl, hc 24 _ rfl, hc 25 _ rfl⟩⟩

/-- Who may run. -/
def alive (t : Th) : Bool := t.kind == 2 && !t.halt
def liveL (ts : List Th) : List Int := (ts.filter alive).map (·.id)
def nums (l : List Int) : List Value := l.map (Value.int .u64)


theorem u64_info : (Try.prog.info? 22).map (fun i => (i.zero, i.size, i.bytes)) = some (some (.int .u64 0), 1, 8) := by kernel_rfl

theorem liveL_snoc (ts : List Th) (k : Nat) (t : Th) (h : ts[k]? = some t) : liveL (ts.take (k + 1)) = liveL (ts.take k) ++ (if alive t then [t.id] else []) := by
  rw [List.take_add_one, h]
  simp only [liveL, List.filter_append, List.map_append]
  congr 1
  cases e : alive t <;> simp [List.filter, e]
theorem liveL_len (ts : List Th) (k : Nat) : (liveL (ts.take k)).length ≤ k := by
  unfold liveL
  rw [List.length_map]
  exact Nat.le_trans (List.length_filter_le _ _) (by rw [List.length_take]; omega)
theorem nums_append (a b : List Int) : nums (a ++ b) = nums a ++ nums b := by simp [nums]

def OwnNums (w : World) (base : Nat) (v : Value) (l : List Int) : Prop := w.ownsRow base 22 1 v l.length (nums l)

theorem one_new (wr : World) (o : Obj) (x : Value) : ∀ (j : Nat) (u : Value), ([x] : List Value)[j]? = some u → ((wr.alloc o).alloc (.cells #[x] 22)).cell? ((⟨wr.heap.size + 1, 0, none⟩ : Addr).add j) = some u := by
  intro j u hu
  cases j with
  | zero =>
    simp at hu
    subst hu
    have h := Blk.cell (Blk.new (wr.alloc o) 22 #[x]) 0
    have e : (wr.alloc o).heap.size = wr.heap.size + 1 := by simp
    rw [e] at h
    exact h
  | succ j => simp at hu


/-- A thing's cells, and the value that a load of it gives. -/
def thC (t : Th) : Array Value := t.cells.toArray
def thV (t : Th) : Value := .agg (thC t)

theorem th_info : (Try.prog.info? 59).map (·.size) = some 26 := by kernel_rfl
theorem th_one (t : Th) : (thC t).all (·.oneCell') = true := by simp [thC, Th.cells, Value.oneCell']

theorem run_load_th (t : Th) (w : World) (b o : Nat) (hc : ∀ j v, t.cells[j]? = some v → w.cell? ⟨b, o + j, none⟩ = some v) :
    (loadVar 59 ⟨b, o, none⟩).run Try.prog w = .ok (thV t) w := by
  have hl : (loadCells ⟨b, o, none⟩ t.cells.length).run Try.prog w = .ok t.cells.toArray w :=
    run_loadCells_list (P := Try.prog) w ⟨b, o, none⟩ t.cells (fun j v hv => by
      have hadd : (⟨b, o, none⟩ : Addr).add j = ⟨b, o + j, none⟩ := by unfold Addr.add; split <;> simp_all
      rw [hadd]; exact hc j v hv)
  cases hq : Try.prog.info? 59 with
  | none => have := th_info; rw [hq] at this; cases this
  | some i =>
    have hs : i.size = 26 := by have := th_info; rw [hq] at this; simpa using this
    have hagg : (isAgg 59).run Try.prog w = .ok true w := by
      unfold isAgg
      rw [Sem.run_bind, run_underlying Try.underlying59 w]
      rfl
    have hl' : (loadCells ⟨b, o, none⟩ 26).run Try.prog w = .ok t.cells.toArray w := hl
    simp [loadVar, Sem.run_bind, hagg, sizeOf, typeInfo, hq, hs, hl', thV, thC]

def thZ : Value := .agg #[.int .u64 0, .int .i64 0, .int .i64 0, .slice none 0 0, .int .i64 0, .slice none 0 0, .int .i64 0, .int .i64 0, .slice none 0 0, .slice none 0 0, .int .u64 0, .int .u64 0, .int .u64 0, .int .u64 0, .int .i64 0, .int .i64 0, .bool false, .int .u64 0, .int .u64 0, .int .u64 0, .int .u64 0, .int .u64 0, .int .u64 0, .int .u64 0, .int .u64 0, .int .u64 0]
theorem th_zero : (Try.prog.info? 59).bind (·.zero) = some thZ := by kernel_rfl
theorem thZ_size : thZ.cells.size = 26 := by kernel_rfl

/-- 'for _, t := range ..' lays the thing in a block of its own. -/
theorem wpList_take {ops : Array Oper} {rest : List Oper} {a : Act} {w : World} {Q : Exit → Act → World → Prop} {d1 d2 x ty1 ty2 ty3 : Nat} {p1 p2 p3 : String} {f1 f2 f3}
    (t : Th) (b o : Nat) (hx : a.eval (.tmp x) = .pointer (some ⟨b, o, none⟩)) (hc : ∀ j v, t.cells[j]? = some v → w.cell? ⟨b, o + j, none⟩ = some v)
    (hd2 : ((a.put (some d1) (thV t)).put (some d2) (.pointer (some ⟨w.heap.size, 0, none⟩))).eval (.tmp d2) = .pointer (some ⟨w.heap.size, 0, none⟩))
    (hd1 : ((a.put (some d1) (thV t)).put (some d2) (.pointer (some ⟨w.heap.size, 0, none⟩))).eval (.tmp d1) = thV t)
    (h : wpList Try.prog ops Q rest ((a.put (some d1) (thV t)).put (some d2) (.pointer (some ⟨w.heap.size, 0, none⟩))) (w.alloc (.cells (thC t) 59))) :
    wpList Try.prog ops Q ({ dst := some d1, op := .load 59 (.tmp x), type := ty1, pos := p1, after := f1, guard := none } ::
      { dst := some d2, op := .alloc 59, type := ty2, pos := p2, after := f2, guard := none } ::
      { dst := none, op := .store 59 (.tmp d2) (.tmp d1), type := ty3, pos := p3, after := f3, guard := none } :: rest) a w := by
  have hz := th_zero
  refine Great.wpList_runTo rfl _ rfl (thV t) w ?_ ?_
  · unfold execOp
    simp only [hx, Instr.loadAt, Instr.sureAddr, Sem.run_bind, Sem.run_pure, Result.andThen_ok, run_load_th t w b o hc]
  · refine Great.wpList_runTo rfl _ rfl (.pointer (some ⟨w.heap.size, 0, none⟩)) (w.alloc (.cells thZ.cells 59)) ?_ ?_
    · cases hq : Try.prog.info? 59 with
      | none => rw [hq] at hz; cases hz
      | some i =>
        rw [hq] at hz
        have hz' : i.zero = some thZ := hz
        simp [execOp, Instr.alloc, typeInfo, hq, hz', newVar, newRow, thZ]
    · refine wpList_store_rowTo rfl 59 _ _ rfl rfl w.heap.size (thC t) hd2 hd1 59 thZ.cells (heap_alloc_new w _) th_info thZ_size (th_one t) ?_
      rw [World.setRow_alloc_new]
      exact h

end Go.Proofs.Ytpobkbedablfeaa
