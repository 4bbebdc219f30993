/- A space with four slots, and what is mapped into it. -/
import Derived.Test.YtndohmimcbmhdaaMw1
set_option linter.unusedVariables false
set_option linter.unusedSimpArgs false
namespace Go.Proofs.Ytndohmimcbmhdaa
open Go.RowKit Go.Sort

/-- The empty space with those slots. -/
def spaceT (v : Th) : Th := { emptyT with s0 := v.s0, s1 := v.s1, s2 := v.s2, s3 := v.s3, s4 := v.s4, s5 := v.s5, s6 := v.s6, s7 := v.s7 }
/-- A list of four slots, as its cells. -/
def fourL (v : Th) : List Value := [.int .u64 v.s0, .int .u64 v.s1, .int .u64 v.s2, .int .u64 v.s3, .int .u64 v.s4, .int .u64 v.s5, .int .u64 v.s6, .int .u64 v.s7]
def goodSlots (v : Th) : Bool := slotOk v.s0 v.s1 && (slotOk v.s2 v.s3 && (slotOk v.s4 v.s5 && slotOk v.s6 v.s7))
theorem spaceT_set (v : Th) (i : Int) (s : Int × Int) : setSlot (spaceT v) i s = spaceT (setSlot v i s) := by
  unfold setSlot spaceT; split <;> (try split) <;> (try split) <;> rfl
theorem spaceT_R {v : Th} (h : ThR v) : ThR (spaceT v) := by
  have he := emptyT_R
  exact ⟨he.id, he.kind, he.d1, he.d2, he.quota, he.next, he.r0, he.r1, he.r2, he.r3, he.minted, he.boot, he.value, h.s0, h.s1, h.s2, h.s3, h.s4, h.s5, h.s6, h.s7⟩
theorem right_space (v : Th) : right_5 (spaceT v) emptyL = goodSlots v := by
  unfold right_5
  rw [show bare5 (spaceT v) = spaceT v from rfl, show bl0 emptyL = emptyL from rfl, sameT_refl]
  rw [show (spaceT v).id = 70 from rfl, show (spaceT v).d1 = 2 from rfl, show (spaceT v).quota = 1 from rfl, show emptyL.l1 = [] from rfl, right_2_nil, pure_2_nil, show namedB 70 = true by decide]
  rw [show slotsL (spaceT v) = [(v.s0, v.s1), (v.s2, v.s3), (v.s4, v.s5), (v.s6, v.s7)] from rfl]
  unfold goodSlots
  simp only [List.any_cons, List.any_nil, oddSlot]
  cases slotOk v.s0 v.s1 <;> cases slotOk v.s2 v.s3 <;> cases slotOk v.s4 v.s5 <;> cases slotOk v.s6 v.s7 <;> rfl
theorem good_set {v : Th} (h : goodSlots v = true) {i : Int} (h0 : 0 ≤ i) (hi : i < 4) (s : Int × Int) : goodSlots (setSlot v i s) = slotOk s.1 s.2 := by
  unfold goodSlots at h
  simp only [Bool.and_eq_true] at h
  obtain ⟨a, b, c, d⟩ := h
  have : i = 0 ∨ i = 1 ∨ i = 2 ∨ i = 3 := by omega
  rcases this with rfl | rfl | rfl | rfl
  · show (slotOk s.1 s.2 && (slotOk v.s2 v.s3 && (slotOk v.s4 v.s5 && slotOk v.s6 v.s7))) = _
    rw [b, c, d]; simp
  · show (slotOk v.s0 v.s1 && (slotOk s.1 s.2 && (slotOk v.s4 v.s5 && slotOk v.s6 v.s7))) = _
    rw [a, c, d]; simp
  · show (slotOk v.s0 v.s1 && (slotOk v.s2 v.s3 && (slotOk s.1 s.2 && slotOk v.s6 v.s7))) = _
    rw [a, b, d]; simp
  · show (slotOk v.s0 v.s1 && (slotOk v.s2 v.s3 && (slotOk v.s4 v.s5 && slotOk s.1 s.2))) = _
    rw [a, b, c]; simp
theorem mapOk_space {v : Th} (h : goodSlots v = true) {i : Int} (h0 : 0 ≤ i) (hi : i < 4) (s : Int × Int) : mapOk (spaceT v) emptyL i s = slotOk s.1 s.2 := by
  unfold mapOk
  rw [decide_eq_true ⟨h0, hi⟩, Bool.true_and, spaceT_set, right_space, good_set h h0 hi]
theorem fourL_set (v : Th) {i : Int} (h0 : 0 ≤ i) (hi : i < 4) (s : Int × Int) : splice (fourL v) (i.toNat * 2) [.int .u64 s.1, .int .u64 s.2] = fourL (setSlot v i s) := by
  have : i = 0 ∨ i = 1 ∨ i = 2 ∨ i = 3 := by omega
  rcases this with rfl | rfl | rfl | rfl <;> rfl
theorem fourL_at (v : Th) {i : Int} (h0 : 0 ≤ i) (hi : i < 4) : ((fourL v).drop (i.toNat * 2)).take 2 = [.int .u64 (slotAt v i).1, .int .u64 (slotAt v i).2] := by
  have : i = 0 ∨ i = 1 ∨ i = 2 ∨ i = 3 := by omega
  rcases this with rfl | rfl | rfl | rfl <;> rfl
theorem fourL_one (v : Th) : ∀ u ∈ fourL v, u.oneCell' = true := by
  intro u hu
  simp only [fourL, List.mem_cons, List.not_mem_nil, or_false] at hu
  rcases hu with rfl | rfl | rfl | rfl | rfl | rfl | rfl | rfl <;> rfl
theorem Blk.four {w : World} {g : Nat} {v : Th} {T : TypeId} (h : Blk w g T (fourL v).toArray) {i : Int} (h0 : 0 ≤ i) (hi : i < 4) : w.cell? ⟨g, i.toNat * 2, none⟩ = some (.int .u64 (slotAt v i).1) ∧ w.cell? ⟨g, i.toNat * 2 + 1, none⟩ = some (.int .u64 (slotAt v i).2) := by
  have : i = 0 ∨ i = 1 ∨ i = 2 ∨ i = 3 := by omega
  rcases this with rfl | rfl | rfl | rfl
  · exact ⟨(Blk.cell h 0).trans rfl, (Blk.cell h 1).trans rfl⟩
  · exact ⟨(Blk.cell h 2).trans rfl, (Blk.cell h 3).trans rfl⟩
  · exact ⟨(Blk.cell h 4).trans rfl, (Blk.cell h 5).trans rfl⟩
  · exact ⟨(Blk.cell h 6).trans rfl, (Blk.cell h 7).trans rfl⟩
/-- A slot mapped into a space whose slots are good. -/
theorem map_space {v u : Th} (hu : LikeP (spaceT v) u) (hg : goodSlots v = true) (hr : ThR v) (w : World) {i : Int} (h0 : 0 ≤ i) (hi : i < 4) (x y : Int) (hx : u64R x) (hy : u64R y) :
    Calls Try.prog 73 #[.agg (thC u), .int .i64 i, .agg #[.int .u64 x, .int .u64 y]] w fun e w' => (∃ z, e = .returned (.tuple #[.agg (thC z), .int .i64 (if slotOk x y then 0 else 171)]) ∧ LikeP (spaceT (if slotOk x y then setSlot v i (x, y) else v)) z) ∧ Below w.heap.size w w' := by
  have := map_likeP hu w i x y (spaceT_R hr) rfl hx hy
  rw [mapOk_space hg h0 hi] at this
  refine this.mono fun e w' ⟨⟨z, he, hz⟩, hb⟩ => ⟨⟨z, he, ?_⟩, hb⟩
  revert hz
  cases slotOk x y
  · exact fun hz => hz
  · intro hz
    rw [show (if true = true then setSlot (spaceT v) i (x, y) else spaceT v) = setSlot (spaceT v) i (x, y) from rfl, spaceT_set] at hz
    exact hz
theorem whereV_space (v : Th) {x : Int} (hx : 0 ≤ x) (hx2 : x < 512) : whereV (spaceT v) x = if slotZ (slotAt v (x / 128)) then .tuple #[.agg #[.int .u64 0, .int .u64 0], .int .i64 0, .int .i64 172] else .tuple #[.agg #[.int .u64 (slotAt v (x / 128)).1, .int .u64 (slotAt v (x / 128)).2], .int .i64 (x % 128), .int .i64 0] := by
  unfold whereV hitB
  rw [decide_eq_true ⟨hx, hx2⟩, Bool.true_and, show slotAt (spaceT v) (x / 128) = slotAt v (x / 128) from rfl]
  cases slotZ (slotAt v (x / 128)) <;> rfl
theorem spaceT_zero : spaceT zeroTh = emptyT := rfl
theorem good_zero : goodSlots zeroTh = true := by decide
end Go.Proofs.Ytndohmimcbmhdaa

/- Four slots and four numbers that come in. -/
set_option linter.unusedVariables false
set_option linter.unusedSimpArgs false
namespace Go.Proofs.Ytndohmimcbmhdaa
open Go.RowKit Go.ChangeShapes Go.WideShapes Go.Deep
set_option maxRecDepth 100000
section
variable {H : Type} {enc : TypeId × Value → H} {w W : World} {base b0 : Nat} {spare : Nat → Bool} {held : Bool} {d : DataW H} {p : List MemPlace} {v : Value}
theorem zeroTh_R : ThR zeroTh := by
  constructor <;> first | exact ⟨by decide, by decide⟩
theorem cellsOf59 : Try.prog.cellsOf 59 = 8 := by kernel_rfl
theorem cellsOf75 : Try.prog.cellsOf 75 = 4 := by kernel_rfl
theorem ints4_of_trod {fuel : Nat} {cs : List Value} {x : DataW H × List MemPlace} (h : DataW.trod enc Try.prog w base spare held fuel 75 cs = some x) :
    ∃ a b c d : Int, cs = [.int .i64 a, .int .i64 b, .int .i64 c, .int .i64 d] := by
  obtain ⟨xs, n, _, _, hl, hlen, hf⟩ := DataW.trod_array Try.underlying75 h
  rw [cellsOf75] at hl
  rw [cellsOf3] at hf
  match cs, hl with
  | [c0, c1, c2, c3], _ =>
    obtain ⟨z0, g0, _⟩ : ∃ y, DataW.trod enc Try.prog w base spare held n 3 [c0] = some y ∧ _ := got hlen (by decide) (hf 0 (by decide))
    obtain ⟨z1, g1, _⟩ : ∃ y, DataW.trod enc Try.prog w base spare held n 3 [c1] = some y ∧ _ := got hlen (by decide) (hf 1 (by decide))
    obtain ⟨z2, g2, _⟩ : ∃ y, DataW.trod enc Try.prog w base spare held n 3 [c2] = some y ∧ _ := got hlen (by decide) (hf 2 (by decide))
    obtain ⟨z3, g3, _⟩ : ∃ y, DataW.trod enc Try.prog w base spare held n 3 [c3] = some y ∧ _ := got hlen (by decide) (hf 3 (by decide))
    obtain ⟨a, k0, _, _⟩ := DataW.trod_int Try.underlying3 g0
    obtain ⟨b, k1, _, _⟩ := DataW.trod_int Try.underlying3 g1
    obtain ⟨c, k2, _, _⟩ := DataW.trod_int Try.underlying3 g2
    obtain ⟨d, k3, _, _⟩ := DataW.trod_int Try.underlying3 g3
    simp only [List.cons.injEq, and_true] at k0 k1 k2 k3
    subst k0 k1 k2 k3
    exact ⟨a, b, c, d, rfl⟩
theorem slots4_of_trod {fuel : Nat} {cs : List Value} {x : DataW H × List MemPlace} (h : DataW.trod enc Try.prog w base spare held fuel 59 cs = some x) :
    ∃ t : Th, cs = fourL t ∧ ThR t := by
  obtain ⟨xs, n, _, _, hl, hlen, hf⟩ := DataW.trod_array Try.underlying59 h
  rw [cellsOf59] at hl
  rw [cellsOf52] at hf
  match cs, hl with
  | [c0, c1, c2, c3, c4, c5, c6, c7], _ =>
    obtain ⟨z0, g0, _⟩ : ∃ y, DataW.trod enc Try.prog w base spare held n 52 [c0, c1] = some y ∧ _ := got hlen (by decide) (hf 0 (by decide))
    obtain ⟨z1, g1, _⟩ : ∃ y, DataW.trod enc Try.prog w base spare held n 52 [c2, c3] = some y ∧ _ := got hlen (by decide) (hf 1 (by decide))
    obtain ⟨z2, g2, _⟩ : ∃ y, DataW.trod enc Try.prog w base spare held n 52 [c4, c5] = some y ∧ _ := got hlen (by decide) (hf 2 (by decide))
    obtain ⟨z3, g3, _⟩ : ∃ y, DataW.trod enc Try.prog w base spare held n 52 [c6, c7] = some y ∧ _ := got hlen (by decide) (hf 3 (by decide))
    obtain ⟨a0, a1, k0, r0, r1⟩ := slot_of_trod g0
    obtain ⟨a2, a3, k1, r2, r3⟩ := slot_of_trod g1
    obtain ⟨a4, a5, k2, r4, r5⟩ := slot_of_trod g2
    obtain ⟨a6, a7, k3, r6, r7⟩ := slot_of_trod g3
    simp only [List.cons.injEq, and_true] at k0 k1 k2 k3
    obtain ⟨e0, e1⟩ := k0
    obtain ⟨e2, e3⟩ := k1
    obtain ⟨e4, e5⟩ := k2
    obtain ⟨e6, e7⟩ := k3
    subst e0 e1 e2 e3 e4 e5 e6 e7
    have z := zeroTh_R
    exact ⟨{ zeroTh with s0 := a0, s1 := a1, s2 := a2, s3 := a3, s4 := a4, s5 := a5, s6 := a6, s7 := a7 }, rfl, ⟨z.id, z.kind, z.d1, z.d2, z.quota, z.next, z.r0, z.r1, z.r2, z.r3, z.minted, z.boot, z.value, r0, r1, r2, r3, r4, r5, r6, r7⟩⟩
theorem agg_arr {t e : TypeId} {n : Nat} {r : Reach} (ht : Try.prog.underlying t = some (.array n e)) (hv : Value.okWide Try.prog W r b0 t v) {l : List Value} (h : v.cells.toList = l) : v = .agg l.toArray := by
  obtain ⟨cs, rfl⟩ : ∃ cs, v = .agg cs := by
    simp only [Value.okWide, ht] at hv
    obtain ⟨cs, h1, _⟩ := hv
    exact ⟨cs, h1⟩
  subst h
  simp [Value.cells]
theorem open_ints4 {r : Reach} (hv : Value.okWide Try.prog W r b0 75 v) (h : DataW.Trod enc Try.prog W base spare held 75 v d p) :
    ∃ a b c e : Int, v = .agg #[.int .i64 a, .int .i64 b, .int .i64 c, .int .i64 e] := by
  obtain ⟨fu, h⟩ := h
  obtain ⟨a, b, c, e, h1⟩ := ints4_of_trod h
  exact ⟨a, b, c, e, agg_arr Try.underlying75 hv h1⟩
theorem open_slots {r : Reach} (hv : Value.okWide Try.prog W r b0 59 v) (h : DataW.Trod enc Try.prog W base spare held 59 v d p) :
    ∃ t : Th, v = .agg (fourL t).toArray ∧ ThR t := by
  obtain ⟨fu, h⟩ := h
  obtain ⟨t, h1, hr⟩ := slots4_of_trod h
  exact ⟨t, agg_arr Try.underlying59 hv h1, hr⟩
end
end Go.Proofs.Ytndohmimcbmhdaa

/- Four slots in a block of their own; one of four numbers. -/
set_option linter.unusedVariables false
set_option linter.unusedSimpArgs false
namespace Go.Proofs.Ytndohmimcbmhdaa
open Go.RowKit Go.Sort

theorem slots_zero : (Try.prog.info? 59).bind (·.zero) = some (.agg (fourL zeroTh).toArray) := by kernel_rfl
theorem size59b : (Try.prog.info? 59).map (·.size) = some 8 := by kernel_rfl
/-- Four slots in a block of their own. -/
theorem wpList_new59 {ops : Array Oper} {rest : List Oper} {a : Act} {w : World} {Q : Exit → Act → World → Prop} {d : Tmp} {y : Operand} {ty1 ty2 : TypeId} {p1 p2 : String} {f1 f2 : Array Edge}
    (hd : (a.put (some d) (.pointer (some ⟨w.heap.size, 0, none⟩))).eval (.tmp d) = .pointer (some ⟨w.heap.size, 0, none⟩)) (hy : (a.put (some d) (.pointer (some ⟨w.heap.size, 0, none⟩))).eval y = .agg (fourL zeroTh).toArray)
    (h : wpList Try.prog ops Q rest (a.put (some d) (.pointer (some ⟨w.heap.size, 0, none⟩))) (w.alloc (.cells (fourL zeroTh).toArray 59))) :
    wpList Try.prog ops Q ({ dst := some d, op := .alloc 59, type := ty1, pos := p1, after := f1, guard := none } :: { dst := none, op := .store 59 (.tmp d) y, type := ty2, pos := p2, after := f2, guard := none } :: rest) a w := by
  have hz := slots_zero
  refine Great.wpList_runTo rfl _ rfl (.pointer (some ⟨w.heap.size, 0, none⟩)) (w.alloc (.cells (fourL zeroTh).toArray 59)) ?_ ?_
  · cases hq : Try.prog.info? 59 with
    | none => rw [hq] at hz; cases hz
    | some i =>
      rw [hq] at hz
      have hz' : i.zero = some (.agg (fourL zeroTh).toArray) := hz
      simp [execOp, Instr.alloc, typeInfo, hq, hz', newVar, newRow]
      rfl
  · refine wpList_store_rowTo rfl 59 _ _ rfl rfl w.heap.size (fourL zeroTh).toArray hd hy 59 (fourL zeroTh).toArray (heap_alloc_new w _) size59b rfl (by simp [fourL, Value.oneCell']) ?_
    rw [World.setRow_alloc_new]
    exact h
/-- One of four numbers, whichever. -/
theorem wpList_index75 {ops : Array Oper} {rest : List Oper} {a : Act} {w : World} {Q : Exit → Act → World → Prop} {d : Tmp} {x y : Operand} {ty1 : TypeId} {p1 : String} {f1 : Array Edge} (k : Nat) (b0 b1 b2 b3 : Int) (hk : k < 4)
    (hx : a.eval x = .agg #[.int .i64 b0, .int .i64 b1, .int .i64 b2, .int .i64 b3]) (hy : a.eval y = .int .i64 k)
    (h : ∀ z : Int, wpList Try.prog ops Q rest (a.put (some d) (.int .i64 z)) w) :
    wpList Try.prog ops Q ({ dst := some d, op := .index 75 x y, type := ty1, pos := p1, after := f1, guard := none } :: rest) a w := by
  have hk4 : k = 0 ∨ k = 1 ∨ k = 2 ∨ k = 3 := by omega
  rcases hk4 with rfl | rfl | rfl | rfl
  · refine Great.wpList_runTo rfl _ rfl (.int .i64 b0) w ?_ (h b0)
    unfold execOp
    simp only [hx, hy]
    simp [Instr.index, Sem.run_bind, run_underlying Try.underlying75, run_underlying Try.underlying3, part, isAgg, asIntOf]
  · refine Great.wpList_runTo rfl _ rfl (.int .i64 b1) w ?_ (h b1)
    unfold execOp
    simp only [hx, hy]
    simp [Instr.index, Sem.run_bind, run_underlying Try.underlying75, run_underlying Try.underlying3, part, isAgg, asIntOf]
  · refine Great.wpList_runTo rfl _ rfl (.int .i64 b2) w ?_ (h b2)
    unfold execOp
    simp only [hx, hy]
    simp [Instr.index, Sem.run_bind, run_underlying Try.underlying75, run_underlying Try.underlying3, part, isAgg, asIntOf]
  · refine Great.wpList_runTo rfl _ rfl (.int .i64 b3) w ?_ (h b3)
    unfold execOp
    simp only [hx, hy]
    simp [Instr.index, Sem.run_bind, run_underlying Try.underlying75, run_underlying Try.underlying3, part, isAgg, asIntOf]
theorem slotAt_R {v : Th} (h : ThR v) (i : Int) : u64R (slotAt v i).1 ∧ u64R (slotAt v i).2 := by
  unfold slotAt
  split
  · exact ⟨h.s0, h.s1⟩
  · split
    · exact ⟨h.s2, h.s3⟩
    · split
      · exact ⟨h.s4, h.s5⟩
      · exact ⟨h.s6, h.s7⟩
theorem Blk.type_ne {w : World} {g g' : Nat} {T T' : TypeId} {cs cs' : Array Value} (h : Blk w g T cs) (h' : Blk w g' T' cs') (hT : T ≠ T') : g ≠ g' := by
  intro e
  subst e
  unfold Blk at h h'
  rw [h] at h'
  simp only [Option.some.injEq, Prod.mk.injEq, Obj.cells.injEq] at h'
  exact hT (by simp_all)
theorem pick4 {k : Nat} (b0 b1 b2 b3 : Int) (hk : k < 4) : ∃ z : Int, [b0, b1, b2, b3][k]? = some z := ⟨[b0, b1, b2, b3][k], List.getElem?_eq_getElem (by simpa using hk)⟩
/-- The number at k. -/
theorem wpList_at75 {ops : Array Oper} {rest : List Oper} {a : Act} {w : World} {Q : Exit → Act → World → Prop} {d : Tmp} {x y : Operand} {ty1 : TypeId} {p1 : String} {f1 : Array Edge} (k : Nat) (b0 b1 b2 b3 z : Int) (hz : [b0, b1, b2, b3][k]? = some z)
    (hx : a.eval x = .agg #[.int .i64 b0, .int .i64 b1, .int .i64 b2, .int .i64 b3]) (hy : a.eval y = .int .i64 k)
    (h : wpList Try.prog ops Q rest (a.put (some d) (.int .i64 z)) w) :
    wpList Try.prog ops Q ({ dst := some d, op := .index 75 x y, type := ty1, pos := p1, after := f1, guard := none } :: rest) a w := by
  have hk : k < 4 := by simpa using (List.getElem?_eq_some_iff.1 hz).1
  have hk4 : k = 0 ∨ k = 1 ∨ k = 2 ∨ k = 3 := by omega
  rcases hk4 with rfl | rfl | rfl | rfl <;>
  · obtain rfl := Option.some.inj hz
    refine Great.wpList_runTo rfl _ rfl _ w ?_ h
    unfold execOp
    simp only [hx, hy]
    simp [Instr.index, Sem.run_bind, run_underlying Try.underlying75, run_underlying Try.underlying3, part, isAgg, asIntOf]
theorem Blk.quad {w : World} {g : Nat} {t : TypeId} {a b c d : Value} (h : Blk w g t #[a, b, c, d]) : w.cell? ⟨g, 0, none⟩ = some a ∧ w.cell? ⟨g, 1, none⟩ = some b ∧ w.cell? ⟨g, 2, none⟩ = some c ∧ w.cell? ⟨g, 3, none⟩ = some d := ⟨(Blk.cell h 0).trans rfl, (Blk.cell h 1).trans rfl, (Blk.cell h 2).trans rfl, (Blk.cell h 3).trans rfl⟩
end Go.Proofs.Ytndohmimcbmhdaa
