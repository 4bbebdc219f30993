/- Labels by their lists: what label's functions hand back. -/
import Derived.Test.YtndohmimcbmhdaaMz13
set_option linter.unusedVariables false
set_option linter.unusedSimpArgs false
namespace Go.Proofs.Ytndohmimcbmhdaa
open Go.RowKit Go.Sort

/-- A value that reads as a label. -/
def LabR (d : Int) (F : List (Int × Int)) (W : World) (v : Value) : Prop := ∃ A n c, v = .agg #[.int .i64 d, .slice A n c] ∧ CatsAt W W.heap.size A n c F
theorem LabR.below {d : Int} {F : List (Int × Int)} {w W : World} {v : Value} (h : LabR d F w v) (hb : Below w.heap.size w W) : LabR d F W v := by
  obtain ⟨A, n, c, e, hT⟩ := h
  exact ⟨A, n, c, e, (hT.below hb).more hb.size⟩
theorem LabR.stable {d : Int} {F : List (Int × Int)} {w : World} : (Leaves.rel (LabR d F)).stable nil_ w := fun W W' u _ hb h => h.below (since_below hb (Nat.le_refl _))
def RetLab (d : Int) (F : List (Int × Int)) (w : World) (e : Ending) (w' : World) : Prop := ∃ v, e = .returned v ∧ LabR d F w' v ∧ Below w.heap.size w w'

/-- The same, its categories in memory of the call's own. -/
def RetOwn (d : Int) (F : List (Int × Int)) (w : World) (e : Ending) (w' : World) : Prop := ∃ A n c, e = .returned (.agg #[.int .i64 d, .slice A n c]) ∧ OwnCats w' w.heap.size (.slice A n c) F ∧ Below w.heap.size w w'
theorem own_at {w : World} {B : Nat} {A : Option Addr} {n c : Nat} {F : List (Int × Int)} (h : OwnCats w B (.slice A n c) F) : CatsAt w w.heap.size A n c F := by
  obtain ⟨A', n', c', e, hT⟩ := h.at_
  injection e with e1 e2 e3
  subst e1 e2 e3
  exact hT
theorem RetOwn.lab {d : Int} {F : List (Int × Int)} {w w' : World} {e : Ending} (h : RetOwn d F w e w') : RetLab d F w e w' := by
  obtain ⟨A, n, c, he, hv, hb⟩ := h
  exact ⟨_, he, ⟨A, n, c, rfl, own_at hv⟩, hb⟩
theorem IsForm.is {d : Int} {cs F : List (Int × Int)} (h : IsForm d cs F) : F = formL d cs := h.unique (formL_is d cs)
theorem made_own {d : Int} {cs : List (Int × Int)} {w w' : World} {e : Ending} (h : Made d cs w e w') : RetOwn d (formL d cs) w e w' := by
  obtain ⟨v, F, he, hv, hF, hb⟩ := h
  obtain ⟨A, n, c, rfl, hT⟩ := hv.at_
  obtain rfl := hF.is
  exact ⟨A, n, c, he, hv, hb⟩
theorem made_lab {d : Int} {cs : List (Int × Int)} {w w' : World} {e : Ending} (h : Made d cs w e w') : RetLab d (formL d cs) w e w' := by
  obtain ⟨v, F, he, hv, hF, hb⟩ := h
  obtain ⟨A, n, c, rfl, hT⟩ := hv.at_
  obtain rfl := hF.is
  exact ⟨_, he, ⟨A, n, c, rfl, hT⟩, hb⟩

def raiseL (d : Int) (cs : List (Int × Int)) : List (Int × Int) := formL (turnF 0 5 d d) (mergeL (turnF 0 5) d cs d cs)
def lowerL (d : Int) (cs : List (Int × Int)) : List (Int × Int) := formL (turnF 5 0 d d) (mergeL (turnF 5 0) d cs d cs)
def joinL (d : Int) (cs : List (Int × Int)) (d' : Int) (cs' : List (Int × Int)) : List (Int × Int) := formL (max d d') (mergeL (fun x y => max x y) d cs d' cs')
def meetL (d : Int) (cs : List (Int × Int)) (d' : Int) (cs' : List (Int × Int)) : List (Int × Int) := formL (min d d') (mergeL (fun x y => min x y) d cs d' cs')

section
variable (w : World) (d d' : Int) (A A' : Option Addr) (n c n' c' : Nat) (cs cs' : List (Int × Int))
theorem make34_l (h : CatsAt w w.heap.size A n c cs) (hn : n ≤ 8796093022208) : Calls Try.prog 34 #[.int .i64 d, .slice A n c] w fun e w' => RetLab d (formL d cs) w e w' :=
  (make34 w d A n c cs h hn).mono fun _ _ h => made_lab h
theorem raise46_l (h : CatsAt w w.heap.size A n c cs) (hn : n ≤ 4398046511104) : Calls Try.prog 46 #[.agg #[.int .i64 d, .slice A n c]] w fun e w' => RetLab (turnF 0 5 d d) (raiseL d cs) w e w' :=
  (raise46 w d A n c cs h (by omega)).mono fun _ _ h => made_lab h
theorem lower48_l (h : CatsAt w w.heap.size A n c cs) (hn : n ≤ 4398046511104) : Calls Try.prog 48 #[.agg #[.int .i64 d, .slice A n c]] w fun e w' => RetLab (turnF 5 0 d d) (lowerL d cs) w e w' :=
  (lower48 w d A n c cs h (by omega)).mono fun _ _ h => made_lab h
theorem join43_l (h : CatsAt w w.heap.size A n c cs) (h' : CatsAt w w.heap.size A' n' c' cs') (hn : n + n' ≤ 8796093022208) :
    Calls Try.prog 43 #[.agg #[.int .i64 d, .slice A n c], .agg #[.int .i64 d', .slice A' n' c']] w fun e w' => RetLab (max d d') (joinL d cs d' cs') w e w' :=
  (join43 w d d' A A' n c n' c' cs cs' h h' hn).mono fun _ _ h => made_lab h
theorem meet44_l (h : CatsAt w w.heap.size A n c cs) (h' : CatsAt w w.heap.size A' n' c' cs') (hn : n + n' ≤ 8796093022208) :
    Calls Try.prog 44 #[.agg #[.int .i64 d, .slice A n c], .agg #[.int .i64 d', .slice A' n' c']] w fun e w' => RetLab (min d d') (meetL d cs d' cs') w e w' :=
  (meet44 w d d' A A' n c n' c' cs cs' h h' hn).mono fun _ _ h => made_lab h
theorem set49_l (id lv : Int) (h : CatsAt w w.heap.size A n c cs) (hn : n + 1 ≤ 8796093022208) :
    Calls Try.prog 49 #[.agg #[.int .i64 d, .slice A n c], .int .u64 id, .int .i64 lv] w fun e w' => RetLab d (formL d ((id, lv) :: cs)) w e w' :=
  (set49 w d id lv A n c cs h hn).mono fun _ _ h => made_lab h
end
/-- How long they are at most. -/
theorem formL_len (d : Int) (cs : List (Int × Int)) : (formL d cs).length ≤ cs.length := (formL_is d cs).less
theorem mergeL_len (f : Int → Int → Int) (d : Int) (cs : List (Int × Int)) (d' : Int) (cs' : List (Int × Int)) : (mergeL f d cs d' cs').length = cs.length + cs'.length := by unfold mergeL; rw [List.length_map, List.length_append]

/-- A label handed back out of its cells. -/
theorem lab_end {w w3 : World} {r B : Nat} {d : Int} {F : List (Int × Int)} {A : Option Addr} {n c : Nat} {x y : Value} (hT : CatsAt w3 B A n c F) (hr : w.heap.size ≤ r) (hB : B ≤ r) (hBs : B ≤ w3.heap.size) (hb : Below w.heap.size w w3) :
    RetLab d F w (.returned (.agg #[.int .i64 d, .slice A n c])) ((w3.setCell ⟨r, 0, none⟩ x).setCell ⟨r, 1, none⟩ y) := by
  have hk : Below B w3 ((w3.setCell ⟨r, 0, none⟩ x).setCell ⟨r, 1, none⟩ y) := ((Below.refl B w3).setCell (p := ⟨r, 0, none⟩) hB _).setCell (p := ⟨r, 1, none⟩) hB _
  exact ⟨_, rfl, ⟨A, n, c, rfl, (hT.below hk).more (Nat.le_trans hBs hk.size)⟩, (hb.setCell (p := ⟨r, 0, none⟩) hr _).setCell (p := ⟨r, 1, none⟩) hr _⟩
theorem lab_own_end {w w3 : World} {r B : Nat} {d : Int} {F : List (Int × Int)} {A : Option Addr} {n c : Nat} {x y : Value} (hv : OwnCats w3 B (.slice A n c) F) (hr : w.heap.size ≤ r) (hB : r < B) (hb : Below w.heap.size w w3) :
    RetOwn d F w (.returned (.agg #[.int .i64 d, .slice A n c])) ((w3.setCell ⟨r, 0, none⟩ x).setCell ⟨r, 1, none⟩ y) :=
  ⟨A, n, c, rfl, ((hv.far (p := ⟨r, 0, none⟩) hB x).far (p := ⟨r, 1, none⟩) hB y).mono (by omega), (hb.setCell (p := ⟨r, 0, none⟩) hr _).setCell (p := ⟨r, 1, none⟩) hr _⟩
end Go.Proofs.Ytndohmimcbmhdaa

/- append among the operations of a drawn region; new blocks. -/
set_option linter.unusedVariables false
set_option linter.unusedSimpArgs false
namespace Go.Proofs.Ytndohmimcbmhdaa
open Go.RowKit Go.Sort

theorem loose_append {P : Program} {D' : Nat → Prop} {sp : Leaves} {o : Oper} {a : Act} (w : World) (s x : Operand) (t : TypeId)
    (ho : o.op = .call { callee := .builtin .append, args := #[s, x], argTypes := #[t, t] })
    (base : Nat) (e : TypeId) (i : TypeInfo) (z : Value) (size bytes : Nat) (ht : P.underlying t = some (.slice e)) (hi : P.info? e = some i) (hz : i.zero = some z)
    (hsize : i.size = size) (hby : i.bytes = bytes) (hzs : z.cells.size = size) (hsz : 0 < size)
    (v : Value) (n : Nat) (xs : List Value) (hs : a.eval s = v) (hown : w.ownsRow base e size v n xs)
    (B : Nat) (A : Option Addr) (m c : Nat) (news : List Value) (hx : a.eval x = .slice A m c) (hr : Reads w B size A m news) (h1 : ∀ u ∈ news, u.oneCell' = true)
    (h63 : n + m ≤ maxLen) (hbytes : (n + m) * bytes ≤ 140737488355328) (hbase : base ≤ w.heap.size)
    (k : ∀ v' w', w'.ownsRow base e size v' (n + m) (xs ++ news) → w.grownBy w' v.ownBlock → (v'.ownBlock = v.ownBlock ∨ v'.ownBlock = some w.heap.size) → But D' w w' ∧ sp.ok w' v' ∧ sp.born w v') :
    looseUpon P D' sp w ((execOp a.eval o).run P w) := by
  obtain ⟨v', w', hrun, h2, h3, h4⟩ := run_append_any (P := P) w base t o.type e i z size bytes ht hi hz hsize hby hzs hsz v n xs hown B A m c news hr h1 h63 hbytes hbase
  unfold execOp
  simp only [ho, resolve, invoke, builtin, Sem.run_bind, Sem.run_pure, Result.andThen_ok, List.map_toArray, List.map_cons, List.map_nil, hs, hx, hrun]
  exact k v' w' h2 h3 h4

/-- A new block of those cells. -/
def NewPtr (B : Nat) (t : TypeId) (cs : Array Value) (W : World) (v : Value) : Prop := ∃ b, v = .pointer (some ⟨b, 0, none⟩) ∧ B ≤ b ∧ Blk W b t cs
def NewSl (B : Nat) (t : TypeId) (n : Nat) (cs : Array Value) (W : World) (v : Value) : Prop := ∃ b, v = .slice (some ⟨b, 0, none⟩) n n ∧ B ≤ b ∧ Blk W b t cs
theorem NewPtr.stable {B : Nat} {t : TypeId} {cs : Array Value} {D : Nat → Prop} {w : World} (hD : ∀ k, D k → k < B) : (Leaves.rel (NewPtr B t cs)).stable D w :=
  fun _ _ _ _ hb ⟨b, e, hB, hk⟩ => ⟨b, e, hB, hb.blk hk (fun hd => by have := hD b hd; omega)⟩
theorem NewSl.stable {B : Nat} {t : TypeId} {n : Nat} {cs : Array Value} {D : Nat → Prop} {w : World} (hD : ∀ k, D k → k < B) : (Leaves.rel (NewSl B t n cs)).stable D w :=
  fun _ _ _ _ hb ⟨b, e, hB, hk⟩ => ⟨b, e, hB, hb.blk hk (fun hd => by have := hD b hd; omega)⟩
theorem loose_newPtr {P : Program} {B : Nat} {t : TypeId} {cs : Array Value} {W : World} (hB : B ≤ W.heap.size) : looseUpon P nil_ (.rel (NewPtr B t cs)) W (.ok (.value (.pointer (some ⟨W.heap.size, 0, none⟩))) (W.alloc (.cells cs t))) :=
  ⟨(But.refl _ _).alloc _, ⟨_, rfl, hB, Blk.new W t cs⟩, trivial⟩
theorem loose_newSl {P : Program} {B : Nat} {t : TypeId} {n : Nat} {cs : Array Value} {W : World} (hB : B ≤ W.heap.size) : looseUpon P nil_ (.rel (NewSl B t n cs)) W (.ok (.value (.slice (some ⟨W.heap.size, 0, none⟩) n n)) (W.alloc (.cells cs t))) :=
  ⟨(But.refl _ _).alloc _, ⟨_, rfl, hB, Blk.new W t cs⟩, trivial⟩

theorem NewPtr.fresh {B : Nat} {t : TypeId} {cs : Array Value} {D : Nat → Prop} {w : World} (hD : ∀ k, D k → k < B) : (Leaves.fresh (NewPtr B t cs)).stable D w :=
  fun _ _ _ _ hb ⟨b, e, hB, hk⟩ => ⟨b, e, hB, hb.blk hk (fun hd => by have := hD b hd; omega)⟩
theorem loose_freshPtr {P : Program} {B : Nat} {t : TypeId} {cs : Array Value} {W : World} (hB : B ≤ W.heap.size) : looseUpon P nil_ (.fresh (NewPtr B t cs)) W (.ok (.value (.pointer (some ⟨W.heap.size, 0, none⟩))) (W.alloc (.cells cs t))) :=
  ⟨(But.refl _ _).alloc _, ⟨⟨_, rfl, hB, Blk.new W t cs⟩, _, rfl, by simp⟩, _, rfl, Nat.le_refl _⟩
/-- Of the new blocks alone. -/
def over (B : Nat) : Nat → Prop := fun k => B ≤ k
theorem But.over_below {w W : World} (h : But (over w.heap.size) w W) : Below w.heap.size w W := ⟨h.os, h.tape, h.output, h.size, fun i hi => h.block i hi (fun hd => by unfold over at hd; omega)⟩
theorem But.over_of {w W : World} (h : Below w.heap.size w W) : But (over w.heap.size) w W := ⟨h.os, h.tape, h.output, h.size, fun i hi _ => h.block i hi⟩
theorem ownRow_frail {B e size n : Nat} {xs : List Value} {D : Nat → Prop} {w : World} : (Leaves.frail (fun W v => World.ownsRow W B e size v n xs)).stable D w :=
  fun _ _ _ _ hb h => World.ownsRow.kept (row := none) h (only_of_below (since_below hb (Nat.le_refl _)) none) (by cases Value.ownBlock _ <;> simp)
theorem ownCats_own {B : Nat} {cs : List (Int × Int)} {D : Nat → Prop} {w : World} : (Leaves.own (fun W v => OwnCats W B v cs)).stable D w :=
  fun _ _ _ _ hb h => h.below (since_below hb (Nat.le_refl _))
theorem ownCats_rel {B : Nat} {cs : List (Int × Int)} {w : World} : (Leaves.rel (fun W v => OwnCats W B v cs)).stable nil_ w :=
  fun _ _ _ _ hb h => h.below (since_below hb (Nat.le_refl _))
/-- A label with categories of the call's own. -/
def OwnLab (B : Nat) (d : Int) (cs : List (Int × Int)) (W : World) (v : Value) : Prop := ∃ A n c, v = .agg #[.int .i64 d, .slice A n c] ∧ OwnCats W B (.slice A n c) cs
theorem OwnLab.frail {B : Nat} {d : Int} {cs : List (Int × Int)} {D : Nat → Prop} {w : World} : (Leaves.frail (OwnLab B d cs)).stable D w :=
  fun _ _ _ _ hb ⟨A, n, c, e, h⟩ => ⟨A, n, c, e, h.below (since_below hb (Nat.le_refl _))⟩
end Go.Proofs.Ytndohmimcbmhdaa

/- The document's Copy. -/
set_option linter.unusedVariables false
set_option linter.unusedSimpArgs false
namespace Go.Proofs.Ytndohmimcbmhdaa
open Go.RowKit Go.Sort

set_option maxHeartbeats 2000000 in
set_option maxRecDepth 100000 in
theorem copy39 (w : World) (d : Int) (A : Option Addr) (n c : Nat) (cs : List (Int × Int)) (h : CatsAt w w.heap.size A n c cs) (hn : n ≤ 8796093022208) :
    Calls Try.prog 39 #[.agg #[.int .i64 d, .slice A n c]] w fun e w' => RetOwn d cs w e w' := by
  have mixed : Try.prog.follows .mixedOrders = true := by kernel_rfl
  obtain ⟨i0, hi0, hz0, hz1, hz2⟩ := info_parts cat_info
  obtain ⟨q1, q2, q3⟩ := two_blk w #[.int .i64 d, .slice A n c] #[.int .i64 0, .slice none 0 0] 26 26
  have HB := hid q1
  have HP1 := hid q2
  have HP2 := hid q3
  have HR := hid ((h.below q1).reads)
  have HLN := hid h.len
  clear h q1 q2 q3
  go_enter Try.func39, Try.ntmps39
  go_wp2_with fail
  generalize (w.alloc (.cells #[.int .i64 d, .slice A n c] 26)).alloc (.cells #[.int .i64 0, .slice none 0 0] 26) = wa at *
  have HF : Hid (∀ W, But (over wa.heap.size) wa W → W.cell? ⟨w.heap.size, 0, none⟩ = some (.int .i64 d) ∧ W.cell? ⟨w.heap.size, 1, none⟩ = some (.slice A n c)) := by
    intro W hW
    have r := HP1.out.below hW.over_below HP1.out.lt
    exact ⟨(Blk.cell r 0).trans rfl, (Blk.cell r 1).trans rfl⟩
  refine wp_region_told 6 (over wa.heap.size) mixed (by kernel_rfl) ?_
  simp only [List.take_succ_cons, List.take_zero, List.drop_succ_cons, List.drop_zero]
  repeat (refine told_val (v := ?_) (fun _ => rfl) (fun vs W hW => ?_) ?_; rotate_left; (focus (have hf := HF.out W hW; clear hW; go_simp; exact loose_val)); simp only [Act.put, List.setIfInBounds_toArray, List.set_cons_zero, List.set_cons_succ, List.nil_append, List.cons_append, Nat.reduceAdd, Leaves.at])
  refine told_frail (fun W v => World.ownsRow W wa.heap.size 32 2 v 0 []) ownRow_frail (fun _ => rfl) (fun vs W hW hd => ?_) ?_
  · go_simp
    exact loose_frail ((But.refl _ _).alloc _) (World.ownsRow_made W #[] 0 hW.size (by simp [maxLen]) rfl)
  simp only [Act.put, List.setIfInBounds_toArray, List.set_cons_zero, List.set_cons_succ, List.nil_append, List.cons_append, Nat.reduceAdd, Leaves.at]
  repeat (refine told_val (v := ?_) (fun _ => rfl) (fun vs W hW => ?_) ?_; rotate_left; (focus (have hf := HF.out W hW; clear hW; go_simp; exact loose_val)); simp only [Act.put, List.setIfInBounds_toArray, List.set_cons_zero, List.set_cons_succ, List.nil_append, List.cons_append, Nat.reduceAdd, Leaves.at])
  refine told_own (fun W v => OwnCats W wa.heap.size v cs) ownCats_own rfl (fun _ => rfl) (fun vs W hW hd => ?_) ?_
  · have hv := hd ⟨2, .data⟩ (by simp) rfl _ rfl (fun _ => rfl)
    refine loose_append W (.tmp 5) (.tmp 7) 23 rfl wa.heap.size 32 i0 _ 2 16 Try.underlying23 hi0 hz0 hz1 hz2 rfl (by omega) (vs 2) 0 [] rfl hv w.heap.size A n c (flat cs) rfl (HR.out.below ((since_below hW (Nat.le_refl _)).mono HB.out.size)) (flat_one cs) (by unfold maxLen; omega) (by omega) hW.size ?_
    intro v' w' ho hg _
    exact ⟨(But.refl _ W).grown hg (fun g e => .inl (World.ownsRow.lt hv g e).1), OwnCats.of_own (by rw [HLN.out]; simpa using ho), trivial⟩
  simp only [Act.put, List.setIfInBounds_toArray, List.set_cons_zero, List.set_cons_succ, List.nil_append, List.cons_append, Nat.reduceAdd, Leaves.at]
  refine told_nil ?_
  intro vs W hW hok hap
  clear hap
  dsimp only
  have hv := hok 5 _ rfl rfl
  have HW := hid (hW.over_below)
  have HB2 := hid (HB.out.trans (hW.over_below.mono HB.out.size))
  have HV := hid hv
  obtain ⟨A1, n1, c1, e1, hT1⟩ := OwnCats.at_ hv
  have HT1 := hid hT1
  have HK := hid (HP2.out.below hW.over_below HP2.out.lt)
  obtain ⟨⟨z0, z1⟩, z2, z3⟩ := label_zero HK.out
  have hlt := HP2.out.lt
  clear hok hW hv hT1
  rw [e1] at HV ⊢
  clear e1
  go_wp2_with fail
  refine bodyPost_ret (label_run (label_put HK.out _ _) rfl _ rfl) rfl ?_
  exact lab_own_end HV.out (by omega) hlt HB2.out
end Go.Proofs.Ytndohmimcbmhdaa
