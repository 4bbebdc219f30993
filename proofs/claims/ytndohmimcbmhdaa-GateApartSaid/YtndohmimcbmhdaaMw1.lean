/- A slot that comes in. -/
import Derived.Test.YtndohmimcbmhdaaMz2
import Derived.Test.YtndohmimcbmhdaaMz18
import Derived.Test.YtndohmimcbmhdaaMz24
import Derived.Test.YtndohmimcbmhdaaMw0
set_option linter.unusedVariables false
set_option linter.unusedSimpArgs false
namespace Go.Proofs.Ytndohmimcbmhdaa
open Go.RowKit Go.ChangeShapes Go.WideShapes Go.Deep
set_option maxRecDepth 100000
theorem cellsOf52 : Try.prog.cellsOf 52 = 2 := by kernel_rfl
section
variable {H : Type} {enc : TypeId × Value → H} {w W : World} {base b0 : Nat} {spare : Nat → Bool} {held : Bool} {d : DataW H} {p : List MemPlace} {v : Value}
theorem slot_of_trod {fuel : Nat} {cs : List Value} {x : DataW H × List MemPlace} (h : DataW.trod enc Try.prog w base spare held fuel 52 cs = some x) :
    ∃ a b : Int, cs = [.int .u64 a, .int .u64 b] ∧ (0 ≤ a ∧ a ≤ 18446744073709551615) ∧ (0 ≤ b ∧ b ≤ 18446744073709551615) := by
  obtain ⟨xs, n, _, _, hl, hlen, hf⟩ := DataW.trod_struct Try.underlying52 h
  rw [cellsOf52] at hl
  match cs, hl with
  | [c0, c1], _ =>
    obtain ⟨y0, g0, _⟩ : ∃ y, DataW.trod enc Try.prog w base spare held n 24 [c0] = some y ∧ _ := fld hf hlen 0 24 0 1 rfl cellsOf24
    obtain ⟨y1, g1, _⟩ : ∃ y, DataW.trod enc Try.prog w base spare held n 24 [c1] = some y ∧ _ := fld hf hlen 1 24 1 1 rfl cellsOf24
    obtain ⟨a, k0, _, w0⟩ := DataW.trod_int Try.underlying24 g0
    obtain ⟨b, k1, _, w1⟩ := DataW.trod_int Try.underlying24 g1
    simp only [List.cons.injEq, and_true] at k0 k1
    subst k0 k1
    exact ⟨a, b, rfl, by simpa [Lit.wf, IntKind.min, IntKind.max, IntKind.signed, IntKind.bits] using w0, by simpa [Lit.wf, IntKind.min, IntKind.max, IntKind.signed, IntKind.bits] using w1⟩
theorem open_slot {r : Reach} (hv : Value.okWide Try.prog W r b0 52 v) (h : DataW.Trod enc Try.prog W base spare held 52 v d p) :
    ∃ a b : Int, v = .agg #[.int .u64 a, .int .u64 b] ∧ (0 ≤ a ∧ a ≤ 18446744073709551615) ∧ (0 ≤ b ∧ b ≤ 18446744073709551615) := by
  obtain ⟨fu, h⟩ := h
  obtain ⟨a, b, e, h1, h2⟩ := slot_of_trod h
  exact ⟨a, b, agg_of (k := 0) Try.underlying52 hv e, h1, h2⟩
end
end Go.Proofs.Ytndohmimcbmhdaa

/- Map, Where and Same upon things that are alike the empty space, with any memory. -/
set_option linter.unusedVariables false
set_option linter.unusedSimpArgs false
namespace Go.Proofs.Ytndohmimcbmhdaa
open Go.RowKit Go.Sort

/-- A thing with those numbers and no lists: it reads the same in any memory. -/
def LikeP (t u : Th) : Prop := ∃ a b c d : Sl, u = t.slices a b c d ∧ (a.n = 0 ∧ b.n = 0 ∧ c.n = 0 ∧ d.n = 0) ∧ ∀ w : World, ThAt w u emptyL
theorem CatsAt.void {w w' : World} {B B' : Nat} {A : Option Addr} {n c : Nat} (h : CatsAt w B A n c []) : n = 0 ∧ CatsAt w' B' A n c [] := by
  have hn : n = 0 := h.len.symm
  exact ⟨hn, h.len, h.cap, h.max, fun hp => absurd hp (by omega)⟩
theorem BytesAt.void {w w' : World} {B B' : Nat} {A : Option Addr} {n c : Nat} (h : BytesAt w B A n c []) : n = 0 ∧ BytesAt w' B' A n c [] := by
  have hn : n = 0 := h.len.symm
  exact ⟨hn, h.len, h.cap, h.max, h.fit, fun hp => absurd hp (by omega)⟩
theorem Like.pure {t u : Th} {w : World} (h : Like t emptyL w u) : LikeP t u := by
  obtain ⟨a, b, c, d, rfl, h1, h2, h3, h4⟩ := h
  refine ⟨a, b, c, d, rfl, ⟨?_, ?_, ?_, ?_⟩, fun w' => ⟨?_, ?_, ?_, ?_⟩⟩
  · exact (CatsAt.void (w' := w) (B' := 0) h1).1
  · exact (CatsAt.void (w' := w) (B' := 0) h2).1
  · exact (CatsAt.void (w' := w) (B' := 0) h3).1
  · exact (BytesAt.void (w' := w) (B' := 0) h4).1
  · exact (CatsAt.void h1).2
  · exact (CatsAt.void h2).2
  · exact (CatsAt.void h3).2
  · exact (BytesAt.void h4).2
theorem where_likeP {t u : Th} (h : LikeP t u) (w : World) (x : Int) : Calls Try.prog 68 #[.agg (thC u), .int .i64 x] w fun e w' => e = .returned (whereV t x) ∧ Below w.heap.size w w' := by
  obtain ⟨a, b, c, d, rfl, _⟩ := h
  exact where68 w _ x
theorem same_likeP {t u : Th} (h : LikeP t u) (w : World) (ht : ThAt w t emptyL) : Calls Try.prog 75 #[.agg (thC u), .agg (thC t)] w fun e w' => e = .returned (.bool true) ∧ Below w.heap.size w w' := by
  obtain ⟨a, b, c, d, rfl, ⟨_, _, hz, _⟩, hw⟩ := h
  have := same75 w _ t emptyL emptyL (hw w) ht
  rw [show sameT (t.slices a b c d) emptyL t emptyL = true from sameT_refl t emptyL] at this
  exact this
/-- Whatever is mapped: the empty space with one slot more or less. -/
theorem map_likeP {t u : Th} (h : LikeP t u) (w : World) (i x y : Int) (hr : ThR t) (hk : t.kind = 5) (hx : u64R x) (hy : u64R y) :
    Calls Try.prog 73 #[.agg (thC u), .int .i64 i, .agg #[.int .u64 x, .int .u64 y]] w fun e w' => (∃ v, e = .returned (.tuple #[.agg (thC v), .int .i64 (if mapOk t emptyL i (x, y) then 0 else 171)]) ∧ LikeP (if mapOk t emptyL i (x, y) then setSlot t i (x, y) else t) v) ∧ Below w.heap.size w w' := by
  obtain ⟨a, b, c, d, rfl, ⟨z1, z2, z3, z4⟩, hw⟩ := h
  have hm : mapOk (t.slices a b c d) emptyL i (x, y) = mapOk t emptyL i (x, y) := by unfold mapOk; rw [setSlot_slices]; rfl
  refine (map73 w (t.slices a b c d) emptyL i x y (hw w) (slices_R hr a b c d) hk hx hy ?_ ?_ ?_ ?_).mono ?_
  · show a.n ≤ _; omega
  · show b.n ≤ _; omega
  · show c.n ≤ _; omega
  · show d.n ≤ _; omega
  · rw [hm]
    rintro e w' ⟨a', b', c', d', he, ht, hb⟩
    refine ⟨⟨_, he, Like.pure (w := w') ⟨a', b', c', d', ?_, ht⟩⟩, hb⟩
    split
    · rw [setSlot_slices]; rfl
    · rfl
theorem likeP_empty : LikeP emptyT emptyT := ⟨⟨none, 0, 0⟩, ⟨none, 0, 0⟩, ⟨none, 0, 0⟩, ⟨none, 0, 0⟩, rfl, ⟨rfl, rfl, rfl, rfl⟩, emptyT_at⟩
theorem setSlot_back {i : Int} (h0 : 0 ≤ i) (hi : i < 4) (s : Int × Int) : setSlot (setSlot emptyT i s) i (0, 0) = emptyT := by
  have : i = 0 ∨ i = 1 ∨ i = 2 ∨ i = 3 := by omega
  rcases this with rfl | rfl | rfl | rfl <;> rfl
theorem mapOk_back {i : Int} (h0 : 0 ≤ i) (hi : i < 4) (s : Int × Int) : mapOk (setSlot emptyT i s) emptyL i (0, 0) = true := by
  unfold mapOk
  rw [decide_eq_true ⟨h0, hi⟩, setSlot_back h0 hi]
  have := right_empty (i := 0) (by decide) (by decide) (0, 0)
  rw [show setSlot emptyT 0 (0, 0) = emptyT from rfl] at this
  rw [this]; decide
theorem slotAt_set {i : Int} (h0 : 0 ≤ i) (hi : i < 4) (s : Int × Int) {j : Int} (g0 : 0 ≤ j) (gj : j < 4) : slotAt (setSlot emptyT i s) j = if j = i then s else (0, 0) := by
  have hi' : i = 0 ∨ i = 1 ∨ i = 2 ∨ i = 3 := by omega
  have hj' : j = 0 ∨ j = 1 ∨ j = 2 ∨ j = 3 := by omega
  rcases hi' with rfl | rfl | rfl | rfl <;> rcases hj' with rfl | rfl | rfl | rfl <;> rfl
end Go.Proofs.Ytndohmimcbmhdaa

/- A region that boxes what Map hands back. -/
set_option linter.unusedVariables false
set_option linter.unusedSimpArgs false
namespace Go.Proofs.Ytndohmimcbmhdaa
open Go.RowKit Go.Sort

def RetT (t : Th) (n : Int) (lo hi : Nat) (W : World) (v : Value) : Prop := ∃ u, v = .tuple #[.agg (thC u), .int .i64 n] ∧ LikeP t u
def GotT (t : Th) (lo hi : Nat) (W : World) (v : Value) : Prop := ∃ u, v = .agg (thC u) ∧ LikeP t u
def PutT (t : Th) (W : World) (x y : Value) : Prop := ∃ u g, x = ptr g ∧ y = .agg (thC u) ∧ LikeP t u ∧ Blk W g 61 (thC u)
section
variable {w W : World} {t : Th} {n : Int} {Good : Nat → Nat → Prop} {vs : Nat → Value}
theorem RetT.steady : (Lz.part (RetT t n)).steady w := fun _ _ _ _ _ _ _ h => h
theorem GotT.steady : (Lz.part (GotT t)).steady w := fun _ _ _ _ _ _ _ h => h
theorem PutT.steady {j k : Nat} : (Lz.fill j k (PutT t)).steady w := fun W W' x y b hb hl hbut ⟨u, g, e1, e2, hu, hk⟩ => by
  subst e1
  rw [ptr_block] at hb
  obtain rfl : g = b := Option.some.inj hb
  exact ⟨u, g, rfl, e2, hu, hbut.blk hk (fun h => h.2 rfl)⟩
theorem z_callT {f : FuncId} {args : Array Value} (h : Calls Try.prog f args W fun e w' => (∃ v, e = .returned (.tuple #[.agg (thC v), .int .i64 n]) ∧ LikeP t v) ∧ Below W.heap.size W w') : zUpon Try.prog (.part (RetT t n)) vs Good W (.ok (.enter f args) W) :=
  h.mono fun _ w' ⟨⟨v, he, hv⟩, hb⟩ => ⟨_, he, (But.refl nil_ W).below hb, W.heap.size, w'.heap.size, .inr ⟨rfl, rfl⟩, v, rfl, hv⟩
theorem z_movT {v : Value} (h : depOk (.part (RetT t n)) Good w W v) : zUpon Try.prog (.part (RetT t n)) vs Good W (.ok (.value v) W) := by
  obtain ⟨lo, hi, hg, hr⟩ := h
  exact ⟨But.refl _ _, lo, hi, .inl hg, hr⟩
theorem z_thT {o : Oper} {a : Act} {x : Operand} {v : Value} (ho : o.op = .extract x 0) (hx : a.eval x = v) (h : depOk (.part (RetT t n)) Good w W v) : zUpon Try.prog (.part (GotT t)) vs Good W ((execOp a.eval o).run Try.prog W) := by
  obtain ⟨lo, hi, hg, u, e, hu⟩ := h
  subst e
  unfold execOp
  simp only [ho, hx]
  exact ⟨But.refl _ _, lo, hi, .inl hg, u, rfl, hu⟩
theorem z_numT {o : Oper} {a : Act} {x : Operand} {v : Value} (ho : o.op = .extract x 1) (hx : a.eval x = v) (h : depOk (.part (RetT t n)) Good w W v) : zUpon Try.prog (.val (.int .i64 n)) vs Good W ((execOp a.eval o).run Try.prog W) := by
  obtain ⟨lo, hi, hg, u, e, hu⟩ := h
  subst e
  unfold execOp
  simp only [ho, hx]
  exact ⟨But.refl _ _, rfl⟩
theorem alloc_run61 {o : Oper} {ev : Operand → Value} (ho : o.op = .alloc 61) : (execOp ev o).run Try.prog W = .ok (.value (ptr W.heap.size)) (W.alloc (.cells (thC zeroTh) 61)) := by
  have hz := th_zero
  cases hq : Try.prog.info? 61 with
  | none => rw [hq] at hz; cases hz
  | some i =>
    rw [hq] at hz
    have hz' : i.zero = some thZ := hz
    simp [execOp, ho, Instr.alloc, typeInfo, hq, hz', newVar, newRow, thZ, ptr, thC, zeroTh, Th.cells]
    rfl
theorem store_run61 {o : Oper} {a : Act} {x y : Operand} {g : Nat} {u u0 : Th} (ho : o.op = .store 61 x y) (hx : a.eval x = ptr g) (hy : a.eval y = .agg (thC u)) (hk : Blk W g 61 (thC u0)) :
    ∃ W', (execOp a.eval o).run Try.prog W = .ok .skip W' ∧ But (fun m => m = g) W W' ∧ Blk W' g 61 (thC u) := by
  refine ⟨W.setRow g (thC u), ?_, but_setRow W g _, blk_setRow hk⟩
  have hr := run_store_blk (w := W) (g := g) (t := 61) (ty := 61) (cur := u0.cells) (o := 0) (v := .agg (thC u)) (vs := u.cells) hk rfl th_info (by show 0 + 26 ≤ 26; omega) (thC_one u)
  unfold execOp
  simp only [ho, hx, hy, ptr, Instr.storeAt, Instr.sureAddr, Sem.run_bind, Sem.run_pure, Result.andThen_ok, hr]
  rfl
theorem z_putT {o : Oper} {a : Act} {x y : Operand} {g : Nat} {v v' : Value} (ho : o.op = .store 61 x y) (hx : a.eval x = v') (hg : v' = ptr g) (hy : a.eval y = v) (hk : Blk W g 61 (thC zeroTh)) (h : depOk (.part (GotT t)) Good w W v) :
    ∃ W', (execOp a.eval o).run Try.prog W = .ok .skip W' ∧ But (fun m => m = g) W W' ∧ PutT t W' v' v := by
  obtain ⟨lo, hi, _, u, rfl, hu⟩ := h
  obtain ⟨W', h1, h2, h3⟩ := store_run61 (u := u) ho (hx.trans hg) hy hk
  exact ⟨W', h1, h2, u, g, hg, rfl, hu, h3⟩
end
def missV : Value := .tuple #[.agg #[.int .u64 0, .int .u64 0], .int .i64 0, .int .i64 172]
theorem whereV_hit {i : Int} (h0 : 0 ≤ i) (hi : i < 4) (a b : Int) {x : Int} (hx : 0 ≤ x) (hx2 : x < 512) (hj : x / 128 = i) (hs : slotZ (a, b) = false) : whereV (setSlot emptyT i (a, b)) x = .tuple #[.agg #[.int .u64 a, .int .u64 b], .int .i64 (x % 128), .int .i64 0] := by
  unfold whereV hitB
  rw [slotAt_set h0 hi (a, b) (by omega) (by omega), if_pos hj, hs, decide_eq_true ⟨hx, hx2⟩]
  rfl
theorem whereV_far {t : Th} {x : Int} (hx : ¬ (0 ≤ x ∧ x < 512)) : whereV t x = .tuple #[.agg #[.int .u64 0, .int .u64 0], .int .i64 0, .int .i64 172] := by
  unfold whereV hitB
  rw [decide_eq_false hx]
  rfl
theorem whereV_other {i : Int} (h0 : 0 ≤ i) (hi : i < 4) (s : Int × Int) {x : Int} (hx : 0 ≤ x) (hx2 : x < 512) (hj : ¬ x / 128 = i) : whereV (setSlot emptyT i s) x = .tuple #[.agg #[.int .u64 0, .int .u64 0], .int .i64 0, .int .i64 172] := by
  unfold whereV hitB
  rw [slotAt_set h0 hi s (by omega) (by omega), if_neg hj, decide_eq_true ⟨hx, hx2⟩]
  rfl
theorem whereV_none {i : Int} (h0 : 0 ≤ i) (hi : i < 4) {x : Int} (hx : 0 ≤ x) (hx2 : x < 512) : whereV (setSlot emptyT i (0, 0)) x = .tuple #[.agg #[.int .u64 0, .int .u64 0], .int .i64 0, .int .i64 172] := by
  unfold whereV hitB
  rw [slotAt_set h0 hi (0, 0) (by omega) (by omega), show (if x / 128 = i then ((0 : Int), (0 : Int)) else (0, 0)) = (0, 0) by split <;> rfl, decide_eq_true ⟨hx, hx2⟩]
  rfl
theorem slot_zero : (Try.prog.info? 52).bind (·.zero) = some (.agg #[.int .u64 0, .int .u64 0]) := by kernel_rfl
/-- A slot in a block of its own. -/
theorem wpList_new52 {ops : Array Oper} {rest : List Oper} {a : Act} {w : World} {Q : Exit → Act → World → Prop} {d : Tmp} {y : Operand} {ty1 ty2 : TypeId} {p1 p2 : String} {f1 f2 : Array Edge} (x z : Int)
    (hd : (a.put (some d) (.pointer (some ⟨w.heap.size, 0, none⟩))).eval (.tmp d) = .pointer (some ⟨w.heap.size, 0, none⟩)) (hy : (a.put (some d) (.pointer (some ⟨w.heap.size, 0, none⟩))).eval y = .agg #[.int .u64 x, .int .u64 z])
    (h : wpList Try.prog ops Q rest (a.put (some d) (.pointer (some ⟨w.heap.size, 0, none⟩))) (w.alloc (.cells #[.int .u64 x, .int .u64 z] 52))) :
    wpList Try.prog ops Q ({ dst := some d, op := .alloc 52, type := ty1, pos := p1, after := f1, guard := none } :: { dst := none, op := .store 52 (.tmp d) y, type := ty2, pos := p2, after := f2, guard := none } :: rest) a w := by
  have hz := slot_zero
  refine Great.wpList_runTo rfl _ rfl (.pointer (some ⟨w.heap.size, 0, none⟩)) (w.alloc (.cells #[.int .u64 0, .int .u64 0] 52)) ?_ ?_
  · cases hq : Try.prog.info? 52 with
    | none => rw [hq] at hz; cases hz
    | some i =>
      rw [hq] at hz
      have hz' : i.zero = some (.agg #[.int .u64 0, .int .u64 0]) := hz
      simp [execOp, Instr.alloc, typeInfo, hq, hz', newVar, newRow]
      rfl
  · refine wpList_store_rowTo rfl 52 _ _ rfl rfl w.heap.size #[.int .u64 x, .int .u64 z] hd hy 52 #[.int .u64 0, .int .u64 0] (heap_alloc_new w _) size52 rfl (by simp [Value.oneCell']) ?_
    rw [World.setRow_alloc_new]
    exact h
end Go.Proofs.Ytndohmimcbmhdaa
