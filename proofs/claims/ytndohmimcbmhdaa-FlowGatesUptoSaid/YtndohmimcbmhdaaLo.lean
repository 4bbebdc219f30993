/- A region whose order is drawn, walked once: what each operation leaves is told by a known value or by a relation, and each operation is shown from what it waits for alone. -/
import Derived.Test.YtndohmimcbmhdaaKp
import Derived.Orders
import Derived.StillTail
set_option linter.unusedVariables false
set_option linter.unusedSimpArgs false
namespace Go.Proofs.Ytndohmimcbmhdaa
open Go.RowKit

/-- What an operation leaves: a known value; one that is told by a relation; a row of the call's own that it writes; one that is told by a relation until that row is written; a new block. -/
inductive Leaves where
  | val (v : Value)
  | rel (R : World → Value → Prop)
  | own (R : World → Value → Prop)
  | frail (R : World → Value → Prop)
  | fresh (R : World → Value → Prop)
/-- The block that a pointer or a slice leads to. -/
def blockOf : Value → Option Nat
  | .pointer (some a) => some a.block
  | .slice (some a) _ _ => some a.block
  | _ => none
def Leaves.at (s : Leaves) (u : Value) : Value := match s with | .val v => v | _ => u
def Leaves.ok (s : Leaves) (W : World) (u : Value) : Prop := match s with | .val v => u = v | .rel R => R W u | .own R => R W u | .frail R => R W u | .fresh R => R W u ∧ ∃ b, blockOf u = some b ∧ b < W.heap.size
def Leaves.dis (D : Nat → Prop) (s : Leaves) : Nat → Prop := match s with | .own _ => D | _ => nil_
def Leaves.stable (D : Nat → Prop) (w : World) (s : Leaves) : Prop := match s with
  | .val _ => True
  | .rel R => ∀ W W' u, But D w W → But D W W' → R W u → R W' u
  | .own R => ∀ W W' u, But D w W → But nil_ W W' → R W u → R W' u
  | .frail R => ∀ W W' u, But D w W → But nil_ W W' → R W u → R W' u
  | .fresh R => ∀ W W' u, But D w W → But D W W' → R W u → R W' u
def Leaves.isFresh (s : Leaves) : Bool := match s with | .fresh _ => true | _ => false
/-- Behind the world W: a new block. -/
def Leaves.born (s : Leaves) (W : World) (u : Value) : Prop := match s with | .fresh _ => ∃ b, blockOf u = some b ∧ W.heap.size ≤ b | _ => True
def Leaves.isFrail (s : Leaves) : Bool := match s with | .frail _ => true | _ => false
def Leaves.isOwn (s : Leaves) : Bool := match s with | .own _ => true | _ => false

theorem Leaves.at_ok {s : Leaves} {W : World} {u : Value} (h : s.ok W u) : s.at u = u := by
  cases s with
  | val v => exact h.symm
  | rel R => rfl
  | own R => rfl
  | frail R => rfl
  | fresh R => rfl
theorem Leaves.fresh_not_frail {s : Leaves} (h : s.isFresh = true) (h' : s.isFrail = true) : False := by
  cases s with
  | val v => exact Bool.noConfusion h
  | rel R => exact Bool.noConfusion h
  | own R => exact Bool.noConfusion h
  | frail R => exact Bool.noConfusion h
  | fresh R => exact Bool.noConfusion h'
theorem Leaves.fresh_ok {s : Leaves} {W : World} {u : Value} (h : s.isFresh = true) (h' : s.ok W u) : ∃ b, blockOf u = some b ∧ b < W.heap.size := by
  cases s with
  | val v => exact Bool.noConfusion h
  | rel R => exact Bool.noConfusion h
  | own R => exact Bool.noConfusion h
  | frail R => exact Bool.noConfusion h
  | fresh R => exact h'.2
theorem Leaves.fresh_born {s : Leaves} {W : World} {u : Value} (h : s.isFresh = true) (h' : s.born W u) : ∃ b, blockOf u = some b ∧ W.heap.size ≤ b := by
  cases s with
  | val v => exact Bool.noConfusion h
  | rel R => exact Bool.noConfusion h
  | own R => exact Bool.noConfusion h
  | frail R => exact Bool.noConfusion h
  | fresh R => exact h'
theorem But.wide {D : Nat → Prop} {a b : World} (h : But nil_ a b) : But D a b := ⟨h.os, h.tape, h.output, h.size, fun k hk _ => h.block k hk (fun x => x)⟩
theorem But.dis {D : Nat → Prop} {s : Leaves} {a b : World} (h : But (s.dis D) a b) : But D a b := by
  cases s with
  | val v => exact But.wide h
  | rel R => exact But.wide h
  | own R => exact h
  | frail R => exact But.wide h
  | fresh R => exact But.wide h

def looseUpon (P : Program) (D' : Nat → Prop) (s : Leaves) (W : World) : Result Next → Prop
  | .ok (.value u) W' => But D' W W' ∧ s.ok W' u ∧ s.born W u
  | .ok .skip W' => But D' W W' ∧ s.ok W' undef ∧ s.born W undef
  | .ok (.enter f args) W' => Calls P f args W' fun e W'' => ∃ u, e = .returned u ∧ But D' W W'' ∧ s.ok W'' u ∧ s.born W u
  | _ => False

theorem wp_of_loose {P : Program} {o : Oper} {a : Act} {D' : Nat → Prop} {s : Leaves} {W : World} {K : Act → World → Prop} {Q : Exit → Act → World → Prop}
    (h : looseUpon P D' s W ((execOp a.eval o).run P W)) (k : ∀ u W', But D' W W' → s.ok W' u → s.born W u → K (a.put o.dst u) W') : o.wp P a W K Q := by
  unfold Oper.wp
  generalize (execOp a.eval o).run P W = r at *
  cases r with
  | ok n W' =>
    cases n <;> simp only [looseUpon] at h <;> simp only [Oper.upon]
    case value u => exact k _ _ h.1 h.2.1 h.2.2
    case skip => exact k _ _ h.1 h.2.1 h.2.2
    case enter f args =>
      refine h.mono fun e W'' ⟨u, he, hb, hs, hn⟩ => ?_
      subst he
      exact k _ _ hb hs hn
  | halt x W' => simp only [looseUpon] at h

/-! ### The frame as it stands once the operations below i have come up -/
def dstOf (ops : Array Oper) (i : Nat) : Option Tmp := (ops[i]?).bind (·.dst)
def lay (ops : Array Oper) (a : Act) (S : Nat → Leaves) (vs : Nat → Value) : Nat → Act
  | 0 => a
  | i + 1 => (lay ops a S vs i).put (dstOf ops i) ((S i).at (vs i))

theorem put_size (a : Act) (d : Option Tmp) (v : Value) : (a.put d v).tmps.size = a.tmps.size := by cases d <;> simp [Act.put]
theorem put_defers_ (a : Act) (d : Option Tmp) (v : Value) : (a.put d v).defers = a.defers := by cases d <;> rfl
theorem put_same (a : Act) (t : Tmp) (v : Value) (ht : t < a.tmps.size) : (a.put (some t) v).tmps[t]? = some v := by simp [Act.put, ht]
theorem put_other (a : Act) (d : Option Tmp) (v : Value) (t : Tmp) (h : d ≠ some t) : (a.put d v).tmps[t]? = a.tmps[t]? := by
  cases d with
  | none => rfl
  | some d => exact Array.getElem?_setIfInBounds_ne (fun e => h (by rw [e]))
theorem lay_size (ops : Array Oper) (a : Act) (S : Nat → Leaves) (vs : Nat → Value) (i : Nat) : (lay ops a S vs i).tmps.size = a.tmps.size := by
  induction i with
  | zero => rfl
  | succ i ih => rw [lay, put_size, ih]
theorem lay_defers (ops : Array Oper) (a : Act) (S : Nat → Leaves) (vs : Nat → Value) (i : Nat) : (lay ops a S vs i).defers = a.defers := by
  induction i with
  | zero => rfl
  | succ i ih => rw [lay, put_defers_, ih]
theorem lay_none (ops : Array Oper) (a : Act) (S : Nat → Leaves) (vs : Nat → Value) (t : Tmp) (i : Nat) (h : ∀ j, j < i → dstOf ops j ≠ some t) : (lay ops a S vs i).tmps[t]? = a.tmps[t]? := by
  induction i with
  | zero => rfl
  | succ i ih => rw [lay, put_other _ _ _ _ (h i (by omega)), ih fun j hj => h j (by omega)]
theorem lay_some (ops : Array Oper) (a : Act) (S : Nat → Leaves) (vs : Nat → Value) (t : Tmp) (ht : t < a.tmps.size) (j i : Nat) (hji : j < i) (hj : dstOf ops j = some t) (h : ∀ k, k < i → dstOf ops k = some t → k = j) :
    (lay ops a S vs i).tmps[t]? = some ((S j).at (vs j)) := by
  induction i with
  | zero => omega
  | succ i ih =>
    by_cases e : j = i
    · subst e
      rw [lay, hj, put_same]
      rw [lay_size]; exact ht
    · rw [lay, put_other _ _ _ _ (fun he => e (h i (by omega) he).symm)]
      exact ih (by omega) fun k hk hk2 => h k (by omega) hk2

/-! ### What a walk shows of the operations, one by one -/
structure Lax (P : Program) (ops : Array Oper) (N : Nat) (a : Act) (D : Nat → Prop) (w : World) (S : Nat → Leaves) : Prop where
  run : ∀ i o, i < N → ops[i]? = some o →
    ((∀ vs, Region.wanted o (yielded ops (lay ops a S vs i).tmps) = true) ∧ (∀ vs W, But D w W → ((S i).isOwn = true → But nil_ w W) → (∀ e ∈ o.after, Region.binds .any e = true → e.on < i → ((S e.on).isFrail = true → (S i).isOwn = true) → (S e.on).ok W (vs e.on)) → looseUpon P ((S i).dis D) (S i) W ((execOp (lay ops a S vs i).eval o).run P W))) ∨
    ((∀ vs, Region.wanted o (yielded ops (lay ops a S vs i).tmps) = false) ∧ S i = .val undef)
  stable : ∀ i, i < N → (S i).stable D w
  own : ∀ i j, i < N → j < N → (S i).isOwn = true → (S j).isOwn = true → i = j

def waitsB (ops : Array Oper) (t i : Nat) : Bool := Region.waitsFor .any ops t i
def headArr (N n : Nat) : Array Bool := ((List.range n).map fun j => decide (j < N)).toArray
/-- The Bool over a region: the head may be told one by one; the tail waits for all of it and comes in order. -/
def looseB (ops : Array Oper) (N : Nat) : Bool :=
  Region.noSelect ops && decide (N ≤ ops.size) &&
  ((List.range N).all fun i => (List.range N).all fun j => decide (i = j) || (dstOf ops i).isNone || decide (dstOf ops i ≠ dstOf ops j)) &&
  ((List.range N).all fun i => match ops[i]? with
    | some o => (o.after.all fun e => !Region.binds .any e || decide (e.on < i)) && ((o.looksAt ops).all fun t => (List.range N).all fun j => decide (dstOf ops j ≠ some t) || (decide (j < i) && waitsB ops i j))
    | none => false) &&
  (decide (N = ops.size) || (Region.sinkB .any ops N && Region.chainB .any ops N)) &&
  Region.seqB .any ops (ops.size - N) N (headArr N ops.size)

section
variable {P : Program} {ops : Array Oper} {N : Nat} {a : Act} {D : Nat → Prop} {w : World} {S : Nat → Leaves}

theorem looseB_parts (h : looseB ops N = true) : Region.noSelect ops = true ∧ N ≤ ops.size ∧ (∀ i j t, i < N → j < N → dstOf ops i = some t → dstOf ops j = some t → i = j) ∧
    (∀ i o, i < N → ops[i]? = some o → (∀ e ∈ o.after, Region.binds .any e = true → e.on < i) ∧ ∀ t ∈ o.looksAt ops, ∀ j, j < N → dstOf ops j = some t → j < i ∧ waitsB ops i j = true) ∧
    (N = ops.size ∨ (Region.sinkB .any ops N = true ∧ Region.chainB .any ops N = true)) ∧ Region.seqB .any ops (ops.size - N) N (headArr N ops.size) = true := by
  unfold looseB at h
  simp only [Bool.and_eq_true, decide_eq_true_eq] at h
  obtain ⟨⟨⟨⟨⟨h1, h2⟩, h3⟩, h4⟩, h5⟩, h6⟩ := h
  refine ⟨h1, h2, fun i j t hi hj ei ej => ?_, fun i o hi ho => ?_, ?_, h6⟩
  · have q := List.all_eq_true.1 (List.all_eq_true.1 h3 i (List.mem_range.2 hi)) j (List.mem_range.2 hj)
    simp only [Bool.or_eq_true, decide_eq_true_eq] at q
    rcases q with (q | q) | q
    · exact q
    · rw [ei] at q; cases q
    · exact absurd (ei.trans ej.symm) q
  · have q := List.all_eq_true.1 h4 i (List.mem_range.2 hi)
    rw [ho] at q
    simp only [Bool.and_eq_true] at q
    refine ⟨fun e he hb => ?_, fun t ht j hj hd => ?_⟩
    · have := Array.all_eq_true_iff_forall_mem.1 q.1 e he
      simp only [hb, Bool.not_true, Bool.false_or, decide_eq_true_eq] at this
      exact this
    · have := List.all_eq_true.1 (List.all_eq_true.1 q.2 t ht) j (List.mem_range.2 hj)
      simp only [Bool.or_eq_true, decide_eq_true_eq, Bool.and_eq_true] at this
      rcases this with h | h
      · exact absurd hd h
      · exact h
  · simp only [Bool.or_eq_true, decide_eq_true_eq, Bool.and_eq_true] at h5
    exact h5

theorem eval_same {b c : Act} (x : Operand) (h : ∀ t, x = .tmp t → b.tmps[t]? = c.tmps[t]?) : b.eval x = c.eval x := by
  cases x with
  | tmp t => simp only [Act.eval, Array.getD_eq_getD_getElem?, h t rfl]
  | _ => rfl

/-- Frames that agree where the operation looks run it alike. -/
theorem exec_same {b c : Act} {o : Oper} (hs : ∀ cs d, o.op ≠ .select cs d) (h : ∀ t ∈ o.looksAt ops, b.tmps[t]? = c.tmps[t]?) :
    execOp b.eval o = execOp c.eval o ∧ Region.wanted o (yielded ops b.tmps) = Region.wanted o (yielded ops c.tmps) := by
  refine ⟨execOp_congr o hs fun x hx => eval_same x fun t ht => h t ?_, ?_⟩
  · subst ht
    exact List.mem_append_left _ (List.mem_filterMap.2 ⟨.tmp t, by simpa using hx, rfl⟩)
  · unfold Region.wanted
    cases hg : o.guard with
    | none => rfl
    | some gw =>
      obtain ⟨g, want⟩ := gw
      have hy : yielded ops b.tmps g = yielded ops c.tmps g := by
        unfold yielded
        cases ht : (ops[g]?).bind (·.dst) with
        | none => rfl
        | some t =>
          have := h t (by simp [Oper.looksAt, hg, ht])
          simp only [Option.bind_some, this]
      simp only [hy]

/-- The state on the way through the head. -/
structure Way (ops : Array Oper) (N : Nat) (a : Act) (D : Nat → Prop) (w : World) (S : Nat → Leaves) (listed : Array Bool) (vs : Nat → Value) (b : Act) (W : World) : Prop where
  inv : HeadInv .any ops N listed
  but : But D w W
  calm : (∀ k, k < N → (S k).isOwn = true → listed.getD k false = false) → But nil_ w W
  ok : ∀ j, j < N → listed.getD j false = true → ((S j).isFrail = true → ∀ k, k < N → (S k).isOwn = true → listed.getD k false = false) → (S j).ok W (vs j)
  apart : ∀ j k, j < N → k < N → j ≠ k → listed.getD j false = true → listed.getD k false = true → (S j).isFresh = true → (S k).isFresh = true → blockOf (vs j) ≠ blockOf (vs k)
  tsize : b.tmps.size = a.tmps.size
  defers : b.defers = a.defers
  hit : ∀ j t, j < N → listed.getD j false = true → dstOf ops j = some t → t < a.tmps.size → b.tmps[t]? = some ((S j).at (vs j))
  miss : ∀ t, (∀ j, j < N → listed.getD j false = true → dstOf ops j ≠ some t) → b.tmps[t]? = a.tmps[t]?

theorem getD_set_eq {listed : Array Bool} {i : Nat} (d : Bool) (h : i < listed.size) : (listed.setIfInBounds i true).getD i d = true := by simp [h]

theorem unlisted_of {listed : Array Bool} {i : Nat} (h : listed.getD i true = false) : i < listed.size ∧ listed.getD i false = false := by
  rcases Nat.lt_or_ge i listed.size with h' | h'
  · exact ⟨h', by simp [h'] at h ⊢; exact h⟩
  · simp [Array.getElem?_eq_none h'] at h

/-- How many of the head are still to come. -/
def togo (listed : Array Bool) (N : Nat) : Nat := ((List.range N).filter fun j => !listed.getD j false).length
theorem togo_set {listed : Array Bool} {N i : Nat} (hi : i < N) (hs : i < listed.size) (hu : listed.getD i false = false) : togo (listed.setIfInBounds i true) N + 1 = togo listed N := by
  unfold togo
  induction N with
  | zero => omega
  | succ N ih =>
    rw [List.range_succ, List.filter_append, List.filter_append, List.length_append, List.length_append]
    by_cases e : i = N
    · subst e
      have e1 : (List.range i).filter (fun j => !(listed.setIfInBounds i true).getD j false) = (List.range i).filter (fun j => !listed.getD j false) := by
        apply List.filter_congr
        intro j hj
        rw [getD_set_ne false (by have := List.mem_range.1 hj; omega)]
      rw [e1]
      have e2 := getD_set_eq (listed := listed) (i := i) false hs
      simp only [List.filter_cons, List.filter_nil, e2, hu]
      simp
    · have := ih (by omega)
      have e2 : (listed.setIfInBounds i true).getD N false = listed.getD N false := getD_set_ne false e
      simp only [List.filter_cons, List.filter_nil, e2]
      omega
theorem togo_zero {listed : Array Bool} {N : Nat} (h : togo listed N = 0) : ∀ j, j < N → listed.getD j false = true := by
  intro j hj
  unfold togo at h
  have := List.eq_nil_of_length_eq_zero h
  rw [List.filter_eq_nil_iff] at this
  have := this j (List.mem_range.2 hj)
  simpa using this
theorem togo_pos {listed : Array Bool} {N : Nat} (h : togo listed N ≠ 0) : ∃ j, j < N ∧ listed.getD j false = false ∧ ∀ k, k < j → listed.getD k false = true := by
  have : ∃ j, j < N ∧ listed.getD j false = false := by
    unfold togo at h
    cases hf : (List.range N).filter fun j => !listed.getD j false with
    | nil => rw [hf] at h; exact absurd rfl h
    | cons j l =>
      have hm : j ∈ (List.range N).filter fun j => !listed.getD j false := by rw [hf]; exact List.mem_cons_self
      rw [List.mem_filter] at hm
      exact ⟨j, List.mem_range.1 hm.1, by simpa using hm.2⟩
  obtain ⟨j, hj, hu⟩ := this
  induction j using Nat.strongRecOn with
  | _ j ih =>
    by_cases hx : ∀ k, k < j → listed.getD k false = true
    · exact ⟨j, hj, hu, hx⟩
    · have : ∃ k, k < j ∧ listed.getD k false = false := by
        false_or_by_contra
        rename_i hn
        refine hx fun k hk => ?_
        cases hq : listed.getD k false with
        | true => rfl
        | false => exact absurd ⟨k, hk, hq⟩ hn
      obtain ⟨k, hk, hku⟩ := this
      exact ih k hk (by omega) hku

theorem way_done {listed : Array Bool} {vs : Nat → Value} {b : Act} {W : World} (hB : looseB ops N = true) (h : Way ops N a D w S listed vs b W) (hz : togo listed N = 0) : b = lay ops a S vs N ∧ listed = headArr N ops.size := by
  obtain ⟨_, hN, hdst, _, _, _⟩ := looseB_parts hB
  have hall := togo_zero hz
  constructor
  · have ht : b.tmps = (lay ops a S vs N).tmps := by
      apply Array.ext_getElem?
      intro t
      by_cases hx : ∃ j, j < N ∧ dstOf ops j = some t
      · obtain ⟨j, hj, hd⟩ := hx
        by_cases htl : t < a.tmps.size
        · rw [h.hit j t hj (hall j hj) hd htl, lay_some ops a S vs t htl j N hj hd fun k hk hk2 => hdst k j t hk hj hk2 hd]
        · rw [Array.getElem?_eq_none (by rw [h.tsize]; omega), Array.getElem?_eq_none (by rw [lay_size]; omega)]
      · have hx2 : ∀ j, j < N → dstOf ops j ≠ some t := fun j hj hd => hx ⟨j, hj, hd⟩
        rw [h.miss t fun j hj _ => hx2 j hj, lay_none ops a S vs t N hx2]
    have hd : b.defers = (lay ops a S vs N).defers := by rw [h.defers, lay_defers]
    cases b
    cases hl : lay ops a S vs N
    rw [hl] at ht hd
    simp only at ht hd
    rw [ht, hd]
  · apply Array.ext_getElem?
    intro t
    by_cases hts : t < ops.size
    · have e1 : listed[t]? = some (listed.getD t false) := by simp [h.inv.size, hts]
      rw [e1]
      have e2 : (headArr N ops.size)[t]? = some (decide (t < N)) := by simp [headArr, hts]
      rw [e2]
      by_cases hn : t < N
      · rw [hall t hn]; simp [hn]
      · rw [getD_both (h.inv.tail t (by omega) hts)]; simp [hn]
    · rw [Array.getElem?_eq_none (by rw [h.inv.size]; omega), Array.getElem?_eq_none (by simp [headArr]; omega)]

theorem way_go {Q : Exit → Act → World → Prop} (hB : looseB ops N = true) (hL : Lax P ops N a D w S)
    (hQ : ∀ vs W, But D w W → (∀ j, j < N → (S j).isFrail = false → (S j).ok W (vs j)) → (∀ j k, j < N → k < N → j ≠ k → (S j).isFresh = true → (S k).isFresh = true → blockOf (vs j) ≠ blockOf (vs k)) → wpList P ops Q (ops.toList.drop N) (lay ops a S vs N) W) :
    ∀ (m : Nat) (listed : Array Bool) (vs : Nat → Value) (b : Act) (W : World), togo listed N = m → Way ops N a D w S listed vs b W → wpAny P .any ops Q (m + (ops.size - N)) listed b W := by
  obtain ⟨hsel, hN, hdst, hdeps, htail, hseq⟩ := looseB_parts hB
  intro m
  induction m with
  | zero =>
    intro listed vs b W hm h
    obtain ⟨rfl, rfl⟩ := way_done hB h hm
    have hall := togo_zero hm
    have := wpAny_of_seq (md := .any) (Q' := Q) (ops.toList.drop N) N (headArr N ops.size) (lay ops a S vs N) W (fun j => by simp [List.getElem?_drop]) (by simpa using hseq) (hQ vs W h.but (fun j hj hf => h.ok j hj (hall j hj) (fun hx => by rw [hf] at hx; cases hx)) (fun j k hj hk hne => h.apart j k hj hk hne (hall j hj) (hall k hk)))
    rw [Nat.zero_add]
    simpa using this
  | succ m ih =>
    intro listed vs b W hm h
    rw [show m + 1 + (ops.size - N) = (m + (ops.size - N)) + 1 by omega]
    obtain ⟨j0, hj0, hu0, hl0⟩ := togo_pos (listed := listed) (N := N) (by omega)
    have hin : ∀ j, j < N → listed.getD j false = false → listed.getD j true = false := fun j hj hu => by
      have : j < listed.size := by rw [h.inv.size]; omega
      simp [this] at hu ⊢; exact hu
    refine ⟨fun hr => ?_, fun i hi => ?_⟩
    · have hj0s : j0 < ops.size := by omega
      have : j0 ∈ Region.ready .any ops listed := mem_ready.2 ⟨hin j0 hj0 hu0, ops[j0], by simp [hj0s], fun e he hb => hl0 _ ((hdeps j0 _ hj0 (by simp [hj0s])).1 e he hb)⟩
      rw [hr] at this
      cases this
    · obtain ⟨hun, o, ho, hall⟩ := mem_ready.1 hi
      have his : i < ops.size := (Array.getElem?_eq_some_iff.1 ho).1
      have hiN : i < N := by
        rcases Nat.lt_or_ge i N with hlt | hge
        · exact hlt
        · rcases htail with he | ⟨hs, hc⟩
          · omega
          · exact absurd hi (tail_waits hs hc (by omega) h.inv _ j0 rfl hj0 (hin j0 hj0 hu0) i hge)
      obtain ⟨hils, hiu⟩ := unlisted_of hun
      have hdo : dstOf ops i = o.dst := by simp [dstOf, ho]
      obtain ⟨hdep, hlook⟩ := hdeps i o hiN ho
      have hagree : ∀ t ∈ o.looksAt ops, b.tmps[t]? = (lay ops a S vs i).tmps[t]? := by
        intro t ht
        by_cases hx : ∃ j, j < N ∧ dstOf ops j = some t
        · obtain ⟨j, hj, hd⟩ := hx
          obtain ⟨hji, hw⟩ := hlook t ht j hj hd
          obtain ⟨o', ho', e, he, hb, hon⟩ := Region.waitsFor_spec hw
          obtain rfl : o' = o := Option.some.inj (ho'.symm.trans ho)
          have hlj : listed.getD j false = true := by have := hall e he hb; rwa [hon] at this
          by_cases htl : t < a.tmps.size
          · rw [h.hit j t hj hlj hd htl, lay_some ops a S vs t htl j i hji hd fun k hk hk2 => hdst k j t (by omega) hj hk2 hd]
          · rw [Array.getElem?_eq_none (by rw [h.tsize]; exact Nat.not_lt.1 htl), Array.getElem?_eq_none (by rw [lay_size]; exact Nat.not_lt.1 htl)]
        · have hx2 : ∀ j, j < N → dstOf ops j ≠ some t := fun j hj hd => hx ⟨j, hj, hd⟩
          rw [h.miss t fun j hj _ => hx2 j hj, lay_none ops a S vs t i fun j hj => hx2 j (by omega)]
      obtain ⟨hex, hwa⟩ := exec_same (ops := ops) (fun cs d => Region.noSelect_spec hsel i o cs d ho) hagree
      -- behind the operation
      have hnext : ∀ u W', But ((S i).dis D) W W' → (S i).ok W' u → (S i).born W u → wpAny P .any ops Q (m + (ops.size - N)) (listed.setIfInBounds i true) (b.put o.dst u) W' := by
        intro u W' hbu hok hborn
        refine ih (listed.setIfInBounds i true) (fun j => if j = i then u else vs j) (b.put o.dst u) W' (by have := togo_set (N := N) hiN hils hiu; omega) ?_
        have hlist : ∀ j, (listed.setIfInBounds i true).getD j false = true → j = i ∨ listed.getD j false = true := fun j hj => by
          by_cases e : j = i
          · exact .inl e
          · rw [getD_set_ne false (Ne.symm e)] at hj; exact .inr hj
        have hback : (∀ k, k < N → (S k).isOwn = true → (listed.setIfInBounds i true).getD k false = false) → (S i).isOwn = false ∧ ∀ k, k < N → (S k).isOwn = true → listed.getD k false = false := fun hc => by
          have h1 : (S i).isOwn = false := by
            cases hq : (S i).isOwn with
            | false => rfl
            | true => have := hc i hiN hq; rw [getD_set_eq false hils] at this; cases this
          refine ⟨h1, fun k hk hko => ?_⟩
          have := hc k hk hko
          have hne : i ≠ k := fun e => by subst e; rw [h1] at hko; cases hko
          rwa [getD_set_ne false hne] at this
        refine ⟨h.inv.set hi hiN, h.but.trans hbu.dis, fun hc => ?_, fun j hj hjl hfr => ?_, fun j k hj hk hne hjl hkl hfj hfk => ?_, by rw [put_size, h.tsize], by rw [put_defers_, h.defers], fun j t hj hjl hd htl => ?_, fun t hno => ?_⟩
        · obtain ⟨h1, h2⟩ := hback hc
          refine (h.calm h2).trans ?_
          cases hsi : S i with
          | val v => rw [hsi] at hbu; exact hbu
          | rel R => rw [hsi] at hbu; exact hbu
          | own R => rw [hsi] at h1; cases h1
          | frail R => rw [hsi] at hbu; exact hbu
          | fresh R => rw [hsi] at hbu; exact hbu
        · by_cases e : j = i
          · subst e; simpa using hok
          · rcases hlist j hjl with h1 | h1
            · exact absurd h1 e
            · rw [if_neg e]
              have hst := hL.stable j hj
              have hk := h.ok j hj h1 (fun hx k hk hko => by
                have := hfr hx k hk hko
                by_cases e2 : k = i
                · subst e2; rw [getD_set_eq false hils] at this; cases this
                · rwa [getD_set_ne false (Ne.symm e2)] at this)
              cases hs : S j with
              | val v => rw [hs] at hk; exact hk
              | rel R => rw [hs] at hst hk; exact hst W W' _ h.but hbu.dis hk
              | fresh R =>
                rw [hs] at hst hk
                obtain ⟨hk, b, eb, hlb⟩ := hk
                exact ⟨hst W W' _ h.but hbu.dis hk, b, eb, Nat.lt_of_lt_of_le hlb hbu.size⟩
              | own R =>
                rw [hs] at hst hk
                refine hst W W' _ h.but ?_ hk
                cases hsi : S i with
                | val v => rw [hsi] at hbu; exact hbu
                | rel R => rw [hsi] at hbu; exact hbu
                | own R' => exact absurd (hL.own j i hj hiN (by rw [hs]; rfl) (by rw [hsi]; rfl)) e
                | frail R' => rw [hsi] at hbu; exact hbu
                | fresh R' => rw [hsi] at hbu; exact hbu
              | frail R =>
                rw [hs] at hst hk
                refine hst W W' _ h.but ?_ hk
                cases hsi : S i with
                | val v => rw [hsi] at hbu; exact hbu
                | rel R => rw [hsi] at hbu; exact hbu
                | own R' =>
                  have := hfr (by rw [hs]; rfl) i hiN (by rw [hsi]; rfl)
                  rw [getD_set_eq false hils] at this
                  cases this
                | frail R' => rw [hsi] at hbu; exact hbu
                | fresh R' => rw [hsi] at hbu; exact hbu
        · have hlow : ∀ k, k < N → k ≠ i → (listed.setIfInBounds i true).getD k false = true → (S k).isFresh = true → ∃ b, blockOf (vs k) = some b ∧ b < W.heap.size := fun k hk hki hkl hfk => by
            rcases hlist k hkl with h1 | h1
            · exact absurd h1 hki
            · exact Leaves.fresh_ok hfk (h.ok k hk h1 fun hx => (Leaves.fresh_not_frail hfk hx).elim)
          have hnew : (S i).isFresh = true → ∃ b, blockOf u = some b ∧ W.heap.size ≤ b := fun hx => Leaves.fresh_born hx hborn
          by_cases e1 : j = i
          · have e2 : k ≠ i := fun e2 => hne (e1.trans e2.symm)
            rw [if_pos e1, if_neg e2]
            obtain ⟨b, eb, hb⟩ := hnew (by rw [← e1]; exact hfj)
            obtain ⟨b', eb', hb'⟩ := hlow k hk e2 hkl hfk
            rw [eb, eb']
            intro he
            injection he with he
            omega
          · by_cases e2 : k = i
            · rw [if_neg e1, if_pos e2]
              obtain ⟨b, eb, hb⟩ := hnew (by rw [← e2]; exact hfk)
              obtain ⟨b', eb', hb'⟩ := hlow j hj e1 hjl hfj
              rw [eb, eb']
              intro he
              injection he with he
              omega
            · rw [if_neg e1, if_neg e2]
              refine h.apart j k hj hk hne ?_ ?_ hfj hfk
              · rcases hlist j hjl with h1 | h1
                · exact absurd h1 e1
                · exact h1
              · rcases hlist k hkl with h1 | h1
                · exact absurd h1 e2
                · exact h1
        · by_cases e : j = i
          · subst e
            rw [hdo] at hd
            rw [hd, put_same _ _ _ (by rw [h.tsize]; exact htl), if_pos rfl, Leaves.at_ok hok]
          · rw [if_neg e, put_other _ _ _ _ (fun he => e (hdst j i t hj hiN hd (by rw [hdo]; exact he)))]
            rcases hlist j hjl with h1 | h1
            · exact absurd h1 e
            · exact h.hit j t hj h1 hd htl
        · rw [put_other _ _ _ _ (fun he => hno i hiN (getD_set_eq false hils) (by rw [hdo]; exact he))]
          refine h.miss t fun j hj hjl => ?_
          by_cases e : j = i
          · subst e; rw [hiu] at hjl; cases hjl
          · exact hno j hj (by rw [getD_set_ne false (Ne.symm e)]; exact hjl)
      unfold wpOp
      simp only [ho]
      rcases hL.run i o hiN ho with ⟨hw, hrun⟩ | ⟨hw, hund⟩
      · rw [if_pos (by rw [hwa]; exact hw vs)]
        refine .inl (wp_of_loose (D' := (S i).dis D) (s := S i) ?_ fun u W' h1 h2 h3 => hnext u W' h1 h2 h3)
        rw [hex]
        exact hrun vs W h.but (fun hx => h.calm fun k hk hko => by have := hL.own i k hiN hk hx hko; subst this; exact hiu) fun e he hb hlt hfr => h.ok e.on (by omega) (hall e he hb) fun hx k hk hko => by
          have := hL.own i k hiN hk (hfr hx) hko
          subst this
          exact hiu
      · rw [if_neg (by rw [hwa, hw vs]; exact Bool.false_ne_true)]
        exact hnext undef W (But.refl _ _) (by rw [hund]; rfl) (by rw [hund]; trivial)

theorem wp_region_lax {id N : Nat} {Q : Exit → Act → World → Prop} {S : Nat → Leaves} (hm : P.follows .mixedOrders = true) (hB : looseB ops N = true) (hL : Lax P ops N a D w S)
    (hQ : ∀ vs W, But D w W → (∀ j, j < N → (S j).isFrail = false → (S j).ok W (vs j)) → (∀ j k, j < N → k < N → j ≠ k → (S j).isFresh = true → (S k).isFresh = true → blockOf (vs j) ≠ blockOf (vs k)) → wpList P ops Q (ops.toList.drop N) (lay ops a S vs N) W) : (Code.region id ops true).wp P Q a w := by
  obtain ⟨_, hN, _, _, _, _⟩ := looseB_parts hB
  refine wp_region_any hm ?_
  have hz : togo (Array.replicate ops.size false) N = N := by
    unfold togo
    rw [List.filter_eq_self.2, List.length_range]
    intro j _
    rw [getD_replicate_false]; rfl
  have := way_go hB hL hQ N (Array.replicate ops.size false) (fun _ => undef) a { w with drawn := w.drawn + 1 } hz
    ⟨⟨by simp, fun j oj _ hl => (by rw [getD_replicate_false] at hl; cases hl), fun t _ ht => getD_in (by simpa using ht) (getD_replicate_false _ _)⟩, (But.refl D w).drew, fun _ => (But.refl nil_ w).drew, fun j _ hl _ => (by rw [getD_replicate_false] at hl; cases hl), fun j k _ _ _ hl => (by rw [getD_replicate_false] at hl; cases hl), rfl, rfl, fun j t _ hl => (by rw [getD_replicate_false] at hl; cases hl), fun t _ => rfl⟩
  rwa [show N + (ops.size - N) = ops.size by omega] at this
end
end Go.Proofs.Ytndohmimcbmhdaa
