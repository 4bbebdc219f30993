/- The chapter's example of gates. -/
import Derived.Test.YtndohmimcbmhdaaMy3
import Derived.Test.YtndohmimcbmhdaaMy2
set_option linter.unusedVariables false
set_option linter.unusedSimpArgs false
namespace Go.Proofs.Ytndohmimcbmhdaa
open Go.RowKit Go.Sort

/-- The example's gate. -/
def gateT (a : Sl) : Th := { zeroTh with id := 67, kind := 3, d1 := 2, l1 := a, d2 := 2, quota := 1, value := 9 }
def gateL : Tl := ⟨[(540673, 0)], [], [], []⟩
theorem loose_mkgate {o : Oper} {a : Act} {W : World} {x2 x3 : Operand} (s : Sl) (ho : o.op = .build 61 #[(0, .const (.int .u64 67)), (1, .const (.int .i64 3)), (2, x2), (3, x3), (4, .const (.int .i64 1)), (12, .const (.int .u64 9))]) (h2 : a.eval x2 = .agg #[.int .i64 2, .slice s.a s.n s.c]) (h3 : a.eval x3 = .agg #[.int .i64 2, .slice none 0 0]) :
    (execOp a.eval o).run Try.prog W = .ok (.value (.agg (thC (gateT s)))) W := by
  have hz := th_zero
  unfold execOp
  cases hq : Try.prog.info? 61 with
  | none => rw [hq] at hz; cases hz
  | some i =>
    rw [hq] at hz
    have hz' : i.zero = some thZ := hz
    simp only [ho, List.map_toArray, List.map_cons, List.map_nil, h2, h3]
    go_simp
    rfl
theorem wpList_mkgate {ops : Array Oper} {rest : List Oper} {a : Act} {w : World} {Q : Exit → Act → World → Prop} {d : Tmp} {x2 x3 : Operand} {ty1 : TypeId} {p1 : String} {f1 : Array Edge} (s : Sl) (h2 : a.eval x2 = .agg #[.int .i64 2, .slice s.a s.n s.c]) (h3 : a.eval x3 = .agg #[.int .i64 2, .slice none 0 0])
    (h : wpList Try.prog ops Q rest (a.put (some d) (.agg (thC (gateT s)))) w) :
    wpList Try.prog ops Q ({ dst := some d, op := .build 61 #[(0, .const (.int .u64 67)), (1, .const (.int .i64 3)), (2, x2), (3, x3), (4, .const (.int .i64 1)), (12, .const (.int .u64 9))], type := ty1, pos := p1, after := f1, guard := none } :: rest) a w :=
  Great.wpList_runTo rfl _ rfl _ w (loose_mkgate s rfl h2 h3) h
def mintedT : Th := { threadT with boot := 0, minted := 1 }
def mintedL : Tl := ⟨[(540673, 0)], [(540673, 4)], [], []⟩
theorem minted_alive : mintO threadT emptyL 0 = ⟨mintedT, mintedL, 540673, 0⟩ := by kernel_rfl
theorem thread_minty : Minty threadT 0 := by constructor <;> decide
theorem thread_at (w : World) : ThAt w threadT emptyL := ⟨CatsAt.nil_, CatsAt.nil_, CatsAt.nil_, BytesAt.nil_⟩
theorem thread_s (w : World) : ThS (fun _ => False) w threadT emptyL := ⟨thread_at w, fun h => absurd h (by decide), fun h => absurd h (by decide), fun h => absurd h (by decide), fun h => absurd h (by decide)⟩
theorem thru_alive (a : Sl) : thruB threadT emptyL (gateT a) gateL 2 [(540673, 0)] 2 [] = true := by kernel_rfl
def goneT : Th := { threadT with r0 := 9 }
theorem level_own : levelL 2 [(540673, 0)] 540673 = 0 := by kernel_rfl

set_option maxHeartbeats 8000000 in
set_option maxRecDepth 100000 in
theorem alive77 (w : World) : Calls Try.prog 77 #[] w fun e w' => e = .returned (.bool true) ∧ Below w.heap.size w w' := by
  have mixed : Try.prog.follows .mixedOrders = true := by kernel_rfl
  have HMA := hid minted_alive
  have HMI : Hid (∀ W, Calls Try.prog 80 #[.agg (thC threadT), .int .i64 0] W fun e w' => ∃ a b c d : Sl, e = .returned (.tuple #[.agg (thC (mintedT.slices a b c d)), .int .u64 540673, .int .i64 0]) ∧ ThAt w' (mintedT.slices a b c d) mintedL ∧ Below W.heap.size W w') := fun W => by
    have := mint80 W threadT emptyL 0 (thread_at W) thread_minty
    rw [minted_alive] at this
    exact this
  go_enter Try.func77, Try.ntmps77
  go_wp2_with (first
    | (go_at_call 120
       with_reducible refine (thread120 _).mono ?_
       rintro e W1 ⟨rfl, hb1⟩
       have HB1 := hid hb1
       clear hb1)
    | (go_at_call 80
       with_reducible refine (HMI.out _).mono ?_
       rintro e W2 ⟨a, b, c, d, rfl, ha, hb2⟩
       have HB2 := hid (HB1.out.trans (hb2.mono HB1.out.size))
       have HA2 := hid ha
       clear ha hb2)
    | ((with_reducible refine wpList_new61 (gateT a) ?_ ?_ ?_)
       exact rfl
       exact rfl
       have HB4 := hid (HB3.out.alloc HB3.out.size (.cells (thC (gateT a)) 61))
       have HG4 : Hid (Blk (W3.alloc (.cells (thC (gateT a)) 61)) W3.heap.size 61 (thC (gateT a))) := Blk.new W3 61 _
       have HG3' := hid (HG3.out.alloc (.cells (thC (gateT a)) 61))
       have S4 : Hid (But nil_ W3 (W3.alloc (.cells (thC (gateT a)) 61))) := (But.refl nil_ W3).alloc _
       generalize W3.alloc (.cells (thC (gateT a)) 61) = W4 at *
       generalize W3.heap.size = g4 at *
       clear f2 f3)
    | ((with_reducible refine wpList_new61 (mintedT.slices a b c d) ?_ ?_ ?_)
       exact rfl
       exact rfl
       have HB3 := hid (HB2.out.alloc HB2.out.size (.cells (thC (mintedT.slices a b c d)) 61))
       have HG3 : Hid (Blk (W2.alloc (.cells (thC (mintedT.slices a b c d)) 61)) W2.heap.size 61 (thC (mintedT.slices a b c d))) := Blk.new W2 61 _
       have S3 : Hid (But nil_ W2 (W2.alloc (.cells (thC (mintedT.slices a b c d)) 61))) := (But.refl nil_ W2).alloc _
       generalize W2.alloc (.cells (thC (mintedT.slices a b c d)) 61) = W3 at *
       generalize W2.heap.size = g3 at *
       have f2 : W3.cell? ⟨g3, 2, none⟩ = some (.int .i64 2) := (Blk.cell HG3.out 2).trans rfl
       have f3 : W3.cell? ⟨g3, 3, none⟩ = some (.slice a.a a.n a.c) := (Blk.cell HG3.out 3).trans rfl)
    | ((with_reducible refine wpList_mkgate a ?_ ?_ ?_); exact rfl; exact rfl))
  have HA4 := hid ((HA2.out.since_ S3.out).since_ S4.out)
  have HCALL : Hid (∀ W, But nil_ W4 W → Calls Try.prog 78 #[.agg (thC threadT), .agg (thC (gateT a)), .agg #[.int .i64 2, .slice a.a a.n a.c, .int .i64 2, .slice none 0 0]] W fun x w' => RetS (fun _ => False) goneT gateL 0 W x w') := fun W hW => by
    have hA := HA4.out.since_ hW
    have hn : a.n = 1 := by have := hA.c1.len; exact this.symm
    have := through78 W threadT (gateT a) emptyL gateL 2 a.a a.n a.c [(540673, 0)] 2 none 0 0 [] (fun _ => False) (thread_s W) (thread_at W) ⟨hA.c1, CatsAt.nil_, CatsAt.nil_, BytesAt.nil_⟩ ⟨by decide, by decide⟩ ⟨by show a.n ≤ _; omega, Nat.zero_le _⟩ (by decide) (by decide) hA.c1 CatsAt.nil_ (by omega) (by omega)
    rw [thru_alive] at this
    exact this.mono fun x w' ⟨a', b', c', d', e, ht, hb⟩ => ⟨a', b', c', d', e, ht.mono fun k hk => hk.elim (fun h => .inl h.2) .inr, hb⟩
  refine wp_region_toldz 12 mixed (by kernel_rfl) ?_
  simp only [List.take_succ_cons, List.take_zero, List.drop_succ_cons, List.drop_zero]
  refine z_val (v := .agg (thC threadT)) (fun _ => rfl) (fun vs W hW => ?_) ?_
  · clear hW
    go_simp
    exact loose_call (thread120 W)
  simp only [Act.put, List.setIfInBounds_toArray, List.set_cons_zero, List.set_cons_succ, List.nil_append, List.cons_append, Nat.reduceAdd]
  refine z_val (v := .agg (thC (gateT a))) (fun _ => rfl) (fun vs W hW => loose_load61 rfl rfl (hW.blk HG4.out (fun h => h))) ?_
  simp only [Act.put, List.setIfInBounds_toArray, List.set_cons_zero, List.set_cons_succ, List.nil_append, List.cons_append, Nat.reduceAdd]
  refine z_val (v := ?_) (fun _ => rfl) (fun vs W hW => ?_) ?_
  rotate_left
  · clear hW
    go_simp
    exact loose_val
  simp only [Act.put, List.setIfInBounds_toArray, List.set_cons_zero, List.set_cons_succ, List.nil_append, List.cons_append, Nat.reduceAdd]
  refine z_val (v := .agg #[.int .i64 2, .slice a.a a.n a.c]) (fun _ => rfl) (fun vs W hW => loose_load (cur := (mintedT.slices a b c d).cells) (vs := [.int .i64 2, .slice a.a a.n a.c]) rfl rfl (hW.blk HG3'.out (fun h => h)) (agg_of_struct Try.underlying26) size26 rfl) ?_
  simp only [Act.put, List.setIfInBounds_toArray, List.set_cons_zero, List.set_cons_succ, List.nil_append, List.cons_append, Nat.reduceAdd]
  refine z_val (v := .agg #[.int .i64 2, .slice none 0 0]) (fun _ => rfl) (fun vs W hW => ?_) ?_
  · clear hW
    go_simp
    exact loose_val
  simp only [Act.put, List.setIfInBounds_toArray, List.set_cons_zero, List.set_cons_succ, List.nil_append, List.cons_append, Nat.reduceAdd]
  refine z_val (v := .agg #[.int .i64 2, .slice a.a a.n a.c, .int .i64 2, .slice none 0 0]) (fun _ => rfl) (fun vs W hW => ?_) ?_
  · clear hW
    go_simp
    exact loose_val
  simp only [Act.put, List.setIfInBounds_toArray, List.set_cons_zero, List.set_cons_succ, List.nil_append, List.cons_append, Nat.reduceAdd]
  refine z_part (PartN W4.heap.size goneT gateL 0) PartN.steady (fun _ => rfl) (fun vs W Good hW hd => ?_) ?_
  · clear hd
    go_simp
    exact z_callPN (((HCALL.out W hW)).mono fun _ w' ⟨a', b', c', d', e, ht, hbl⟩ => ⟨_, e, ⟨a', b', c', d', rfl, ht.mono fun k hk => hk.elim (fun h => h.elim) (fun h => .inr h)⟩, hbl⟩)
  simp only [Act.put, List.setIfInBounds_toArray, List.set_cons_zero, List.set_cons_succ, List.nil_append, List.cons_append, Nat.reduceAdd]
  refine z_part (PartN W4.heap.size goneT gateL 0) PartN.steady (fun _ => rfl) (fun vs W Good hW hd => z_movPN (hd ⟨6, .data⟩ (by simp) rfl _ rfl)) ?_
  simp only [Act.put, List.setIfInBounds_toArray, List.set_cons_zero, List.set_cons_succ, List.nil_append, List.cons_append, Nat.reduceAdd]
  refine z_part (PartT W4.heap.size goneT gateL) PartT.steady (fun _ => rfl) (fun vs W Good hW hd => z_thPN rfl rfl (hd ⟨7, .data⟩ (by simp) rfl _ rfl)) ?_
  simp only [Act.put, List.setIfInBounds_toArray, List.set_cons_zero, List.set_cons_succ, List.nil_append, List.cons_append, Nat.reduceAdd]
  refine z_val' (v := .int .i64 0) (fun _ => rfl) (fun vs W Good hW hd => z_numPN rfl rfl (hd ⟨7, .data⟩ (by simp) rfl _ rfl)) ?_
  simp only [Act.put, List.setIfInBounds_toArray, List.set_cons_zero, List.set_cons_succ, List.nil_append, List.cons_append, Nat.reduceAdd]
  refine z_box 61 (thC zeroTh) (fun _ => rfl) (fun vs W hW => alloc_run61 rfl) ?_
  simp only [Act.put, List.setIfInBounds_toArray, List.set_cons_zero, List.set_cons_succ, List.nil_append, List.cons_append, Nat.reduceAdd]
  refine z_fill 10 8 61 (thC zeroTh) PutA rfl PutA.steady (by kernel_rfl) (fun _ => rfl) (fun vs W Good hW hd g hg hk => by
    obtain ⟨u, hu⟩ := PartT.th (lo := 0) (hi := 0) (hd ⟨8, .data⟩ (by simp) rfl _ rfl)
    exact z_putA rfl rfl hg rfl hu hk) ?_
  simp only [Act.put, List.setIfInBounds_toArray, List.set_cons_zero, List.set_cons_succ, List.nil_append, List.cons_append, Nat.reduceAdd]
  refine z_nil ?_
  intro vs W hW hv hp hb hf
  obtain ⟨lo, hi, a', b', c', d', e8, hS⟩ := hp 8 _ rfl
  obtain ⟨u', g, e10, e8', hk⟩ := hf 11 10 8 _ rfl
  have eu : thC (goneT.slices a' b' c' d') = thC u' := Value.agg.inj (e8.symm.trans e8')
  rw [← eu] at hk
  dsimp only
  rw [e10, e8]
  have HS5 := hid hS.at_
  have HG5 := hid hk
  have HA5 := hid (HA4.out.since_ hW)
  have HC5 : Hid (CatsAt W W.heap.size a.a a.n a.c [(540673, 0)]) := HA5.out.c1
  have HC6 : Hid (CatsAt W W.heap.size a'.a a'.n a'.c [(540673, 0)]) := HS5.out.c1
  have HB5 := hid (HB4.out.trans (since_below hW HB4.out.size))
  have f2 : W.cell? ⟨g3, 2, none⟩ = some (.int .i64 2) := (Blk.cell (hW.blk HG3'.out (fun h => h)) 2).trans rfl
  have f3 : W.cell? ⟨g3, 3, none⟩ = some (.slice a.a a.n a.c) := (Blk.cell (hW.blk HG3'.out (fun h => h)) 3).trans rfl
  clear hv hp hb hf e10 e8 e8' eu hk hS hW
  generalize vs 6 = v6
  generalize vs 7 = v7
  unfold ptr
  go_wp2_with (first
    | (go_at_call 37
       with_reducible refine (level_below W6 2 a'.a a'.n a'.c [(540673, 0)] 540673 (HC6.out.since_ S6.out)).mono ?_
       rw [level_own]
       rintro e W7 ⟨rfl, hb7⟩
       have HB7 := hid (HB6.out.trans (hb7.mono HB6.out.size))
       clear hb7)
    | (go_at_call 37
       with_reducible refine (level_below W 2 a.a a.n a.c [(540673, 0)] 540673 HC5.out).mono ?_
       rw [level_own]
       rintro e W6 ⟨rfl, hb6⟩
       have S6 := hid ((But.refl nil_ W).below hb6)
       have HB6 := hid (HB5.out.trans (hb6.mono HB5.out.size))
       clear hb6 f2 f3
       have f10 : W6.cell? ⟨g, 10, none⟩ = some (.int .u64 9) := (Blk.cell (S6.out.blk HG5.out (fun h => h)) 10).trans rfl
       have f2 : W6.cell? ⟨g, 2, none⟩ = some (.int .i64 2) := (Blk.cell (S6.out.blk HG5.out (fun h => h)) 2).trans rfl
       have f3 : W6.cell? ⟨g, 3, none⟩ = some (.slice a'.a a'.n a'.c) := (Blk.cell (S6.out.blk HG5.out (fun h => h)) 3).trans rfl))
  go_ret
  exact ⟨rfl, HB7.out⟩
end Go.Proofs.Ytndohmimcbmhdaa
