/-
  FlowGates: called with any values of its parameters, the law answers true, and of what lay in memory nothing has turned. Condition: what comes in is of bulk at most 1048576 (the given second form).
-/
import Derived.Test.YtndohmimcbmhdaaRows
import Derived.Test.YtndohmimcbmhdaaFrame
import Derived.Test.YtndohmimcbmhdaaHead
import Derived.Test.YtndohmimcbmhdaaOp
import Derived.Test.YtndohmimcbmhdaaFg
import Derived.JoinedCond
set_option linter.unusedVariables false
set_option linter.unusedSimpArgs false
namespace Go.Proofs.Ytndohmimcbmhdaa.lawFlowGates
open Go.ChangeShapes Go.WideShapes Go.ChangeAt Go.RowKit Go.Sort

theorem own : ownKnob Try.prog.godebug = none := by kernel_rfl
theorem laidOut : laidOutB Try.prog = true := by kernel_rfl

/-- The walk stands here. -/
structure Held (p : Prop) : Prop where
  out : p
theorem ownRow_rel {B e size n : Nat} {xs : List Value} {w : World} : (Leaves.rel (fun W v => World.ownsRow W B e size v n xs)).stable nil_ w :=
  fun _ _ _ _ hb h => World.ownsRow.kept (row := none) h (only_of_below (since_below hb (Nat.le_refl _)) none) (by cases Value.ownBlock _ <;> simp)
theorem row_since {B e size n : Nat} {xs : List Value} {w W : World} {v : Value} (h : World.ownsRow w B e size v n xs) (hb : But nil_ w W) : World.ownsRow W B e size v n xs :=
  World.ownsRow.kept (row := none) h (only_of_below (since_below hb (Nat.le_refl _)) none) (by cases Value.ownBlock _ <;> simp)
def gatesOk (d : Int) (l : List (Int × Int)) (d' : Int) (l' : List (Int × Int)) : Bool := !(rightB d l) || !(rightB d' l')
theorem gates_ok {d : Int} {l : List (Int × Int)} {d' : Int} {l' : List (Int × Int)} (h : gatesOk d l d' l' = false) : rightB d l = true ∧ rightB d' l' = true := by
  unfold gatesOk at h
  simpa using h
theorem up_levels {d : Int} {l : List (Int × Int)} (h : rightB d l = true) : ∀ id, 0 ≤ levelL d l id ∧ levelL d l id ≤ 4 := by
  unfold rightB at h
  simp only [Bool.and_eq_true, decide_eq_true_eq, Bool.not_eq_true', List.any_eq_false] at h
  obtain ⟨h1, _, h3⟩ := h
  intro id
  unfold levelL
  cases hf : l.find? (fun c => c.1 == id) with
  | none => exact ⟨by dsimp only; omega, by dsimp only; omega⟩
  | some c =>
    have := h3 c (List.mem_of_find?_eq_some hf)
    unfold oddC at this
    simp only [decide_eq_true_eq] at this
    dsimp only
    omega
theorem up_taints {d : Int} {l : List (Int × Int)} {e : Int} {r : List (Int × Int)} {d' : Int} {l' : List (Int × Int)} (h : taintsB d l e r d' l' = true) (id : Int) : levelL d l id ≤ levelL d' l' id := by
  unfold taintsB at h
  rw [Bool.and_eq_true, Bool.and_eq_true] at h
  exact ((leqB_iff _ _ _ _).1 h.2.1).2 id
theorem up_spawns {d : Int} {l : List (Int × Int)} {e : Int} {r : List (Int × Int)} {d' : Int} {l' : List (Int × Int)} {e' : Int} {r' : List (Int × Int)} (h : spawnsB d l e r d' l' e' r' = true) (id : Int) : levelL d l id ≤ levelL d' l' id := by
  unfold spawnsB at h
  rw [Bool.and_eq_true, Bool.and_eq_true] at h
  exact ((leqB_iff _ _ _ _).1 h.2.1).2 id
theorem up_enters {d0 : Int} {l0 : List (Int × Int)} {e0 : Int} {r0 : List (Int × Int)} {d1 : Int} {l1 : List (Int × Int)} {e1 : Int} {r1 : List (Int × Int)} {d2 : Int} {l2 : List (Int × Int)} {e2 : Int} {r2 : List (Int × Int)} (hr : rightB d0 l0 = true) (hr' : rightB d1 l1 = true)
    (h : entersB d0 l0 e0 r0 d1 l1 e1 r1 d2 l2 e2 r2 = true) (id : Int) (h0 : levelL d0 l0 id ≠ 0) (h1 : levelL d1 l1 id ≠ 0) : max (levelL d0 l0 id) (levelL d1 l1 id) ≤ levelL d2 l2 id := by
  unfold entersB at h
  simp only [Bool.and_eq_true] at h
  have := ((leqB_iff _ _ _ _).1 h.2.1).2 id
  unfold leastD leastL at this
  rw [level_lower, level_join, level_raise, level_raise] at this
  have ha := up_levels hr id
  have hb := up_levels hr' id
  unfold turnF at this
  rw [if_neg h0, if_neg h1, if_neg (by omega)] at this
  exact this

set_option maxHeartbeats 4000000 in
set_option maxRecDepth 100000 in
theorem walk (d0 : Int) (A0 : Option Addr) (n0 : Nat) (c0 : Nat) (l0 : List (Int × Int)) (e0 : Int) (E0 : Option Addr) (m0 : Nat) (k0 : Nat) (r0 : List (Int × Int)) (d1 : Int) (A1 : Option Addr) (n1 : Nat) (c1 : Nat) (l1 : List (Int × Int)) (e1 : Int) (E1 : Option Addr) (m1 : Nat) (k1 : Nat) (r1 : List (Int × Int)) (d2 : Int) (A2 : Option Addr) (n2 : Nat) (c2 : Nat) (l2 : List (Int × Int)) (e2 : Int) (E2 : Option Addr) (m2 : Nat) (k2 : Nat) (r2 : List (Int × Int)) (w : World) (t0 : CatsAt w w.heap.size A0 n0 c0 l0) (u0 : CatsAt w w.heap.size E0 m0 k0 r0) (t1 : CatsAt w w.heap.size A1 n1 c1 l1) (u1 : CatsAt w w.heap.size E1 m1 k1 r1) (t2 : CatsAt w w.heap.size A2 n2 c2 l2) (u2 : CatsAt w w.heap.size E2 m2 k2 r2) (z0 : n0 ≤ 1048576) (y0 : m0 ≤ 1048576) (z1 : n1 ≤ 1048576) (y1 : m1 ≤ 1048576) (z2 : n2 ≤ 1048576) (y2 : m2 ≤ 1048576) :
    Calls Try.prog 16 #[.agg #[.int .i64 d0, .slice A0 n0 c0, .int .i64 e0, .slice E0 m0 k0], .agg #[.int .i64 d1, .slice A1 n1 c1, .int .i64 e1, .slice E1 m1 k1], .agg #[.int .i64 d2, .slice A2 n2 c2, .int .i64 e2, .slice E2 m2 k2]] w fun e w' => e = .returned (.bool true) ∧ Below w.heap.size w w' := by
  have mixed : Try.prog.follows .mixedOrders = true := by kernel_rfl
  obtain ⟨i0, hi0, hz0, hz1, hz2⟩ := info_parts cat_info
  obtain ⟨q1, q2, q3, q4⟩ := three_blk w #[.int .i64 d0, .slice A0 n0 c0, .int .i64 e0, .slice E0 m0 k0] #[.int .i64 d1, .slice A1 n1 c1, .int .i64 e1, .slice E1 m1 k1] #[.int .i64 d2, .slice A2 n2 c2, .int .i64 e2, .slice E2 m2 k2] 43 43 43
  have HB := hid q1
  have HP0 := hid q2
  have HP1 := hid q3
  have HP2 := hid q4
  have H0 := hid ((t0.below q1).more q1.size)
  have G0 := hid ((u0.below q1).more q1.size)
  have H1 := hid ((t1.below q1).more q1.size)
  have G1 := hid ((u1.below q1).more q1.size)
  have H2 := hid ((t2.below q1).more q1.size)
  have G2 := hid ((u2.below q1).more q1.size)
  clear t0 u0 t1 u1 t2 u2 q1 q2 q3 q4
  go_enter Try.func16, Try.ntmps16
  go_wp2_with fail
  generalize ((w.alloc (.cells #[.int .i64 d0, .slice A0 n0 c0, .int .i64 e0, .slice E0 m0 k0] 43)).alloc (.cells #[.int .i64 d1, .slice A1 n1 c1, .int .i64 e1, .slice E1 m1 k1] 43)).alloc (.cells #[.int .i64 d2, .slice A2 n2 c2, .int .i64 e2, .slice E2 m2 k2] 43) = wa at *
  refine (alive53 wa).mono ?_
  rintro e wy ⟨rfl, hb1⟩
  have HB1 := hid (HB.out.trans (hb1.mono HB.out.size))
  have HQ0 := hid (HP0.out.below hb1 HP0.out.lt)
  have HQ1 := hid (HP1.out.below hb1 HP1.out.lt)
  have HQ2 := hid (HP2.out.below hb1 HP2.out.lt)
  have I0 := hid ((H0.out.below hb1).more hb1.size)
  have J0 := hid ((G0.out.below hb1).more hb1.size)
  have I1 := hid ((H1.out.below hb1).more hb1.size)
  have I2 := hid ((H2.out.below hb1).more hb1.size)
  have J1 := hid ((G1.out.below hb1).more hb1.size)
  have J2 := hid ((G2.out.below hb1).more hb1.size)
  have HU : Hid (gatesOk d0 l0 d1 l1 = (!(rightB d0 l0) || !(rightB d1 l1))) := rfl
  have HA1 := hid (fun W (hW : But nil_ wy W) => right51 W d0 A0 n0 c0 l0 (I0.out.since_ hW))
  have HA2 := hid (fun W (hW : But nil_ wy W) => right51 W d1 A1 n1 c1 l1 (I1.out.since_ hW))
  have HF0 := hid (fun W (hW : But nil_ wy W) => And.intro ((hW.blk HQ0.out (fun h => h)).cells4) ((hW.blk HQ1.out (fun h => h)).cells4))
  clear hb1 H0 G0 H1 G1 H2 G2 HP0 HP1 HP2 HB
  generalize rightB d0 l0 = q1 at *
  generalize rightB d1 l1 = q2 at *
  go_wp2_with (refine wp_list_told 10 10 nil_ rfl (by decide) ?_)
  simp only [List.take_succ_cons, List.take_zero, List.drop_succ_cons, List.drop_zero]
  repeat (refine told_val (v := ?_) (fun _ => rfl) (fun vs W hW => ?_) ?_; rotate_left; (focus (have hf := HF0.out W hW; clear hW; go_simp; exact loose_val)); simp only [Act.put, List.setIfInBounds_toArray, List.set_cons_zero, List.set_cons_succ, List.nil_append, List.cons_append, Nat.reduceAdd, Leaves.at])
  refine told_val (v := .bool q1) (fun _ => rfl) (fun vs W hW => ?_) ?_
  · go_simp
    exact loose_call (HA1.out W hW)
  simp only [Act.put, List.setIfInBounds_toArray, List.set_cons_zero, List.set_cons_succ, List.nil_append, List.cons_append, Nat.reduceAdd, Leaves.at]
  repeat (refine told_val (v := ?_) (fun _ => rfl) (fun vs W hW => ?_) ?_; rotate_left; (focus (have hf := HF0.out W hW; clear hW; go_simp; exact loose_val)); simp only [Act.put, List.setIfInBounds_toArray, List.set_cons_zero, List.set_cons_succ, List.nil_append, List.cons_append, Nat.reduceAdd, Leaves.at])
  generalize (!q1) = g1 at *
  repeat (refine told_not (b := g1) (v := ?_) (fun _ => Bool.casesOn g1 rfl rfl) (fun hb vs W hW => ?_) ?_; rotate_left; (focus (have hf := HF0.out W hW; clear hW; (try simp only [hb, cond_true, cond_false]); go_simp; exact loose_val)); simp only [Act.put, List.setIfInBounds_toArray, List.set_cons_zero, List.set_cons_succ, List.nil_append, List.cons_append, Nat.reduceAdd, Leaves.at])
  refine told_not (b := g1) (v := .bool q2) (fun _ => Bool.casesOn g1 rfl rfl) (fun hb vs W hW => ?_) ?_
  · try simp only [hb, cond_true, cond_false]
    go_simp
    exact loose_call (HA2.out W hW)
  simp only [Act.put, List.setIfInBounds_toArray, List.set_cons_zero, List.set_cons_succ, List.nil_append, List.cons_append, Nat.reduceAdd, Leaves.at]
  repeat (refine told_not (b := g1) (v := ?_) (fun _ => Bool.casesOn g1 rfl rfl) (fun hb vs W hW => ?_) ?_; rotate_left; (focus (have hf := HF0.out W hW; clear hW; (try simp only [hb, cond_true, cond_false]); go_simp; exact loose_val)); simp only [Act.put, List.setIfInBounds_toArray, List.set_cons_zero, List.set_cons_succ, List.nil_append, List.cons_append, Nat.reduceAdd, Leaves.at])
  refine told_val (v := .bool (g1 || !q2)) (fun _ => rfl) (fun vs W hW => ?_) ?_
  · cases g1 <;> cases q2 <;> (go_simp; exact loose_val)
  simp only [Act.put, List.setIfInBounds_toArray, List.set_cons_zero, List.set_cons_succ, List.nil_append, List.cons_append, Nat.reduceAdd, Leaves.at]
  generalize (g1 || !q2) = g2 at *
  refine told_nil ?_
  intro vs wb hwb hok hap
  clear hap
  dsimp only
  have HWB := hid hwb
  clear hok hwb
  have HBW := hid (HB1.out.trans (since_below HWB.out HB1.out.size))
  cases g2 with
  | true =>
    go_wp2_with fail
    go_ret
    exact ⟨rfl, HBW.out⟩
  | false =>
  obtain ⟨hr0, hr1⟩ := gates_ok HU.out
  have HB1 := HBW
  have HQ0 := hid (HQ0.out.below (since_below HWB.out (Nat.le_refl _)) HQ0.out.lt)
  have HQ1 := hid (HQ1.out.below (since_below HWB.out (Nat.le_refl _)) HQ1.out.lt)
  have HQ2 := hid (HQ2.out.below (since_below HWB.out (Nat.le_refl _)) HQ2.out.lt)
  have I0 := hid (I0.out.since_ HWB.out)
  have J0 := hid (J0.out.since_ HWB.out)
  have I1 := hid (I1.out.since_ HWB.out)
  have J1 := hid (J1.out.since_ HWB.out)
  have I2 := hid (I2.out.since_ HWB.out)
  have J2 := hid (J2.out.since_ HWB.out)
  have HN0 := hid I0.out.len
  have HN1 := hid I1.out.len
  have HN2 := hid I2.out.len
  have HF1 := hid (fun W (hW : But nil_ wb W) => And.intro (And.intro (hW.blk HQ0.out (fun h => h)).cells4 (hW.blk HQ1.out (fun h => h)).cells4) (hW.blk HQ2.out (fun h => h)).cells4)
  go_wp2_with (refine wp_list_told 6 4 nil_ rfl (by decide) ?_)
  simp only [List.take_succ_cons, List.take_zero, List.drop_succ_cons, List.drop_zero]
  refine told_rel (fun W v => World.ownsRow W wb.heap.size 32 2 v 0 []) ownRow_rel (fun _ => rfl) (fun vs W hW hd => ?_) ?_
  · go_simp
    exact loose_rel ((But.refl _ _).alloc _) (World.ownsRow_made W #[] 0 hW.size (by simp [maxLen]) rfl)
  simp only [Act.put, List.setIfInBounds_toArray, List.set_cons_zero, List.set_cons_succ, List.nil_append, List.cons_append, Nat.reduceAdd, Leaves.at]
  repeat (refine told_val (v := ?_) (fun _ => rfl) (fun vs W hW => ?_) ?_; rotate_left; (focus (have hf := HF1.out W hW; clear hW; go_simp; exact loose_val)); simp only [Act.put, List.setIfInBounds_toArray, List.set_cons_zero, List.set_cons_succ, List.nil_append, List.cons_append, Nat.reduceAdd, Leaves.at])
  refine told_nil ?_
  intro vs W3 hW3 hok hap
  clear hap
  dsimp only
  have HO := hid (hok 0 _ rfl rfl)
  have BW := hid (since_below hW3 (Nat.le_refl _))
  have hs3 := hW3.size
  clear hok hW3
  refine wpList_append_any _ rfl (.tmp 25) (.tmp 28) _ rfl wb.heap.size 32 i0 _ 2 16 Try.underlying23 hi0 hz0 hz1 hz2 rfl (by omega) _ 0 [] rfl HO.out wb.heap.size A0 n0 c0 (flat l0) rfl (I0.out.below BW.out).reads (flat_one l0) (by unfold maxLen; omega) (by omega) hs3 ?_
  intro v1 w3 hown hg hat
  have B3 : Hid (Below wb.heap.size wb w3) := BW.out.grown hg (by omega) (fun g e => (World.ownsRow.lt HO.out g e).1)
  have HO3 := hid hown
  have hs4 := hg.size
  clear hown hg hat HO BW
  have X0 := hid (HQ0.out.below B3.out HQ0.out.lt)
  have X1 := hid (HQ1.out.below B3.out HQ1.out.lt)
  have X2 := hid (HQ2.out.below B3.out HQ2.out.lt)
  have hf1 := X1.out.cells4
  go_wp2_with (first
    | (at_builtin; refine wpList_append_any _ rfl (.tmp 30) (.tmp 33) _ rfl wb.heap.size 32 i0 _ 2 16 Try.underlying23 hi0 hz0 hz1 hz2 rfl (by omega) v1 (0 + n0) ([] ++ flat l0) rfl HO3.out wb.heap.size A1 n1 c1 (flat l1) rfl (I1.out.below B3.out).reads (flat_one l1) (by unfold maxLen; omega) (by omega) (by omega) ?_; intro v2 w4 hown hg hat; have B4 : Hid (Below wb.heap.size wb w4) := B3.out.grown hg (by omega) (fun g e => (World.ownsRow.lt HO3.out g e).1); have HO4 := hid hown; have hs6 := hg.size; clear hown hg hat X0 X1 X2 hf1; have X2 := hid (HQ2.out.below B4.out HQ2.out.lt); have hf2 := X2.out.cells4)
    | (at_builtin; refine wpList_append_any _ rfl (.tmp 35) (.tmp 38) _ rfl wb.heap.size 32 i0 _ 2 16 Try.underlying23 hi0 hz0 hz1 hz2 rfl (by omega) v2 (0 + n0 + n1) ([] ++ flat l0 ++ flat l1) rfl HO4.out wb.heap.size A2 n2 c2 (flat l2) rfl (I2.out.below B4.out).reads (flat_one l2) (by unfold maxLen; omega) (by omega) (by omega) ?_; intro v3 w5 hown hg hat; have B5 : Hid (Below wb.heap.size wb w5) := B4.out.grown hg (by omega) (fun g e => (World.ownsRow.lt HO4.out g e).1); have HO5 := hid hown; have hs8 := hg.size; clear hown hg hat X2 hf2)
    | (at_builtin; refine Held.out ?_))
  refine ⟨?_⟩
  refine wpList_append_any _ rfl (.tmp 39) (.tmp 41) _ rfl wb.heap.size 32 i0 _ 2 16 Try.underlying23 hi0 hz0 hz1 hz2 rfl (by omega) v3 (0 + n0 + n1 + n2) ([] ++ flat l0 ++ flat l1 ++ flat l2) rfl (row_since HO5.out ((But.refl nil_ w5).alloc (.cells #[.int .u64 4611686018427387904, .int .i64 0] 32))) (w5.alloc (.cells #[.int .u64 4611686018427387904, .int .i64 0] 32)).heap.size (some ⟨w5.heap.size, 0, none⟩) 1 1 [.int .u64 4611686018427387904, .int .i64 0] rfl (blk_reads (Blk.new w5 32 #[.int .u64 4611686018427387904, .int .i64 0])) (by simp [Value.oneCell']) (by unfold maxLen; omega) (by omega) (by simp; omega) ?_
  intro v4 w6 hown hg hat
  have B6 : Hid (Below wb.heap.size wb w6) := (B5.out.alloc (by omega) (.cells #[.int .u64 4611686018427387904, .int .i64 0] 32)).grown hg (by simp; omega) (fun g e => (World.ownsRow.lt HO5.out g e).1)
  have hv4 : OwnCats w6 wb.heap.size v4 (l0 ++ l1 ++ l2 ++ [(4611686018427387904, 0)]) := OwnCats.of_own (by simpa [flat_append, HN0.out, HN1.out, HN2.out, Nat.add_assoc] using hown)
  obtain ⟨A, n, c, rfl, hT⟩ := OwnCats.at_ hv4
  have HT := hid hT
  have hs9 := hg.size
  clear hown hg hat hv4 hT HO5 HO4 HO3
  have HBL := hid (HB1.out.trans (B6.out.mono HB1.out.size))
  have K0 := hid (HQ0.out.below B6.out HQ0.out.lt)
  have K1 := hid (HQ1.out.below B6.out HQ1.out.lt)
  have K2 := hid (HQ2.out.below B6.out HQ2.out.lt)
  have S0 := hid ((I0.out.below B6.out).more B6.out.size)
  have T0 := hid ((J0.out.below B6.out).more B6.out.size)
  have S1 := hid ((I1.out.below B6.out).more B6.out.size)
  have T1 := hid ((J1.out.below B6.out).more B6.out.size)
  have S2 := hid ((I2.out.below B6.out).more B6.out.size)
  have T2 := hid ((J2.out.below B6.out).more B6.out.size)
  have HT6 := hid HT.out
  have P1 := hid (fun (id : Int) (h : taintsB d0 l0 e0 r0 d2 l2 = true) => up_taints h id)
  have P2 := hid (fun (id : Int) (h : spawnsB d0 l0 e0 r0 d2 l2 e2 r2 = true) => up_spawns h id)
  have P3 := hid (fun (id : Int) (h : entersB d0 l0 e0 r0 d1 l1 e1 r1 d2 l2 e2 r2 = true) => up_enters hr0 hr1 h id)
  have U1 := hid (fun W (hW : But nil_ w6 W) => f62 W d0 A0 n0 c0 l0 e0 E0 m0 k0 r0 d2 A2 n2 c2 l2 (S0.out.since_ hW) (by omega) (T0.out.since_ hW) (by omega) (S2.out.since_ hW) (by omega))
  have U2 := hid (fun W (hW : But nil_ w6 W) => f60 W d0 A0 n0 c0 l0 e0 E0 m0 k0 r0 d2 A2 n2 c2 l2 e2 E2 m2 k2 r2 (S0.out.since_ hW) (by omega) (T0.out.since_ hW) (by omega) (S2.out.since_ hW) (by omega) (T2.out.since_ hW) (by omega))
  have U3 := hid (fun W (hW : But nil_ w6 W) => f66 W d0 A0 n0 c0 l0 e0 E0 m0 k0 r0 d1 A1 n1 c1 l1 e1 E1 m1 k1 r1 d2 A2 n2 c2 l2 e2 E2 m2 k2 r2 (S0.out.since_ hW) (by omega) (T0.out.since_ hW) (by omega) (S1.out.since_ hW) (by omega) (T1.out.since_ hW) (by omega) (S2.out.since_ hW) (by omega) (T2.out.since_ hW) (by omega))
  generalize taintsB d0 l0 e0 r0 d2 l2 = pw at *
  generalize spawnsB d0 l0 e0 r0 d2 l2 e2 r2 = pm at *
  generalize entersB d0 l0 e0 r0 d1 l1 e1 r1 d2 l2 e2 r2 = pr at *
  have hnm : n ≤ 9223372036854775807 := by have := HT6.out.cap; have := HT6.out.max; unfold maxLen at this; omega
  clear HT hr0 hr1 I0 J0 I1 J1 I2 J2 B3 B4 B5 B6 HQ0 HQ1 HQ2 HF1
  generalize l0 ++ l1 ++ l2 ++ [(4611686018427387904, 0)] = cs at *
  go_wp2_with fail
  go_loopw [45] (fun vi wr => ∃ k : Nat, k ≤ n ∧ vi = .int .i64 k ∧ Hid (But nil_ w6 wr)) (fun vi _ => n - (intOf vi).toNat)
  case atStart => exact ⟨0, Nat.zero_le _, rfl, But.refl _ _⟩
  case round =>
    obtain ⟨k, hk, rfl, BW⟩ := hrel
    have HBr := hid (HBL.out.trans (since_below BW.out HBL.out.size))
    by_cases hlt : k < n
    · have hltz : (k : Int) < (n : Int) := by omega
      obtain ⟨b, off, i, v, rfl, hbB, hx, c0', c1'⟩ := (HT6.out.since_ BW.out).at2_ hlt
      clear hx
      go_wp2_with fail
      have BX : Hid (But nil_ w6 (wr.alloc (.cells #[.int .u64 i, .int .i64 v] 32))) := BW.out.alloc _
      have PX : Hid (Blk (wr.alloc (.cells #[.int .u64 i, .int .i64 v] 32)) wr.heap.size 32 #[.int .u64 i, .int .i64 v]) := Blk.new wr 32 _
      have BL1 := hid (HBL.out.trans (since_below BX.out HBL.out.size))
      generalize wr.alloc (.cells #[.int .u64 i, .int .i64 v] 32) = wx at *
      have HF := hid (fun W (hW : But nil_ wx W) => And.intro (And.intro ((BX.out.trans hW).blk K0.out (fun h => h)).cells4 ((BX.out.trans hW).blk K1.out (fun h => h)).cells4) (And.intro ((BX.out.trans hW).blk K2.out (fun h => h)).cells4 (hW.blk PX.out (fun h => h)).cells2))
      have D0 := hid (fun W (hW : But nil_ w6 W) => level_b W d0 A0 n0 c0 l0 i (S0.out.since_ hW))
      have D1 := hid (fun W (hW : But nil_ w6 W) => level_b W d1 A1 n1 c1 l1 i (S1.out.since_ hW))
      have D2 := hid (fun W (hW : But nil_ w6 W) => level_b W d2 A2 n2 c2 l2 i (S2.out.since_ hW))
      have Q1 := hid (P1.out i)
      have Q2 := hid (P2.out i)
      have Q3 := hid (P3.out i)
      generalize levelL d0 l0 i = la at *
      generalize levelL d1 l1 i = lb at *
      generalize levelL d2 l2 i = lo at *
      refine wp_region_told 18 nil_ mixed (by kernel_rfl) ?_
      simp only [List.take_succ_cons, List.take_zero, List.drop_succ_cons, List.drop_zero]
      repeat (refine told_val (v := ?_) (fun _ => rfl) (fun vs W hW => ?_) ?_; rotate_left; (focus (have hf := HF.out W hW; clear hW; go_simp; exact loose_val)); simp only [Act.put, List.setIfInBounds_toArray, List.set_cons_zero, List.set_cons_succ, List.nil_append, List.cons_append, Nat.reduceAdd, Leaves.at])
      refine told_val (v := .int .i64 la) (fun _ => rfl) (fun vs W hW => ?_) ?_
      · go_simp
        exact loose_call (D0.out W (BX.out.trans hW))
      simp only [Act.put, List.setIfInBounds_toArray, List.set_cons_zero, List.set_cons_succ, List.nil_append, List.cons_append, Nat.reduceAdd, Leaves.at]
      repeat (refine told_val (v := ?_) (fun _ => rfl) (fun vs W hW => ?_) ?_; rotate_left; (focus (have hf := HF.out W hW; clear hW; go_simp; exact loose_val)); simp only [Act.put, List.setIfInBounds_toArray, List.set_cons_zero, List.set_cons_succ, List.nil_append, List.cons_append, Nat.reduceAdd, Leaves.at])
      refine told_val (v := .int .i64 lb) (fun _ => rfl) (fun vs W hW => ?_) ?_
      · go_simp
        exact loose_call (D1.out W (BX.out.trans hW))
      simp only [Act.put, List.setIfInBounds_toArray, List.set_cons_zero, List.set_cons_succ, List.nil_append, List.cons_append, Nat.reduceAdd, Leaves.at]
      repeat (refine told_val (v := ?_) (fun _ => rfl) (fun vs W hW => ?_) ?_; rotate_left; (focus (have hf := HF.out W hW; clear hW; go_simp; exact loose_val)); simp only [Act.put, List.setIfInBounds_toArray, List.set_cons_zero, List.set_cons_succ, List.nil_append, List.cons_append, Nat.reduceAdd, Leaves.at])
      refine told_val (v := .int .i64 lo) (fun _ => rfl) (fun vs W hW => ?_) ?_
      · go_simp
        exact loose_call (D2.out W (BX.out.trans hW))
      simp only [Act.put, List.setIfInBounds_toArray, List.set_cons_zero, List.set_cons_succ, List.nil_append, List.cons_append, Nat.reduceAdd, Leaves.at]
      repeat (refine told_val (v := ?_) (fun _ => rfl) (fun vs W hW => ?_) ?_; rotate_left; (focus (have hf := HF.out W hW; clear hW; go_simp; exact loose_val)); simp only [Act.put, List.setIfInBounds_toArray, List.set_cons_zero, List.set_cons_succ, List.nil_append, List.cons_append, Nat.reduceAdd, Leaves.at])
      refine told_nil ?_
      intro vs W7 hW7 hok hap
      clear hap
      dsimp only
      have B7 := hid (BX.out.trans hW7)
      have HF7 := hid (fun W (hW : But nil_ W7 W) => HF.out W (hW7.trans hW))
      clear hok hW7
      go_wp2_with (refine wp_list_told 17 17 nil_ rfl (by decide) ?_)
      simp only [List.take_succ_cons, List.take_zero, List.drop_succ_cons, List.drop_zero]
      repeat (refine told_val (v := ?_) (fun _ => rfl) (fun vs W hW => ?_) ?_; rotate_left; (focus (have hf := HF7.out W hW; clear hW; go_simp; exact loose_val)); simp only [Act.put, List.setIfInBounds_toArray, List.set_cons_zero, List.set_cons_succ, List.nil_append, List.cons_append, Nat.reduceAdd, Leaves.at])
      refine told_val (v := .bool pw) (fun _ => rfl) (fun vs W hW => ?_) ?_
      · go_simp
        exact loose_call (U1.out W (B7.out.trans hW))
      simp only [Act.put, List.setIfInBounds_toArray, List.set_cons_zero, List.set_cons_succ, List.nil_append, List.cons_append, Nat.reduceAdd, Leaves.at]
      repeat (refine told_val (v := ?_) (fun _ => rfl) (fun vs W hW => ?_) ?_; rotate_left; (focus (have hf := HF7.out W hW; clear hW; go_simp; exact loose_val)); simp only [Act.put, List.setIfInBounds_toArray, List.set_cons_zero, List.set_cons_succ, List.nil_append, List.cons_append, Nat.reduceAdd, Leaves.at])
      repeat (refine told_not (b := pw) (v := ?_) (fun _ => Bool.casesOn pw rfl rfl) (fun hb vs W hW => ?_) ?_; rotate_left; (focus (have hf := HF7.out W hW; clear hW; (try simp only [hb, cond_true, cond_false]); go_simp; exact loose_val)); simp only [Act.put, List.setIfInBounds_toArray, List.set_cons_zero, List.set_cons_succ, List.nil_append, List.cons_append, Nat.reduceAdd, Leaves.at])
      refine told_not (b := pw) (v := .bool pm) (fun _ => Bool.casesOn pw rfl rfl) (fun hb vs W hW => ?_) ?_
      · try simp only [hb, cond_true, cond_false]
        go_simp
        exact loose_call (U2.out W (B7.out.trans hW))
      simp only [Act.put, List.setIfInBounds_toArray, List.set_cons_zero, List.set_cons_succ, List.nil_append, List.cons_append, Nat.reduceAdd, Leaves.at]
      refine told_val (v := .bool (pw || pm)) (fun _ => rfl) (fun vs W hW => ?_) ?_
      · cases pw <;> cases pm <;> (go_simp; exact loose_val)
      simp only [Act.put, List.setIfInBounds_toArray, List.set_cons_zero, List.set_cons_succ, List.nil_append, List.cons_append, Nat.reduceAdd, Leaves.at]
      have QA : Hid ((pw || pm) = true → la ≤ lo) := fun h => by
        rw [Bool.or_eq_true] at h
        rcases h with h | h
        · exact Q1.out h
        · exact Q2.out h
      generalize (pw || pm) = s1 at *
      repeat (refine told_val (v := ?_) (fun _ => rfl) (fun vs W hW => ?_) ?_; rotate_left; (focus (have hf := HF7.out W hW; clear hW; go_simp; exact loose_val)); simp only [Act.put, List.setIfInBounds_toArray, List.set_cons_zero, List.set_cons_succ, List.nil_append, List.cons_append, Nat.reduceAdd, Leaves.at])
      repeat (refine told_maybe (b := s1) (v := ?_) (fun _ => Bool.casesOn s1 rfl rfl) (fun hb vs W hW => ?_) ?_; rotate_left; (focus (have hf := HF7.out W hW; clear hW; (try simp only [hb, cond_true, cond_false]); go_simp; exact loose_val)); simp only [Act.put, List.setIfInBounds_toArray, List.set_cons_zero, List.set_cons_succ, List.nil_append, List.cons_append, Nat.reduceAdd, Leaves.at])
      have QB : Hid ((s1 && decide (lo < la)) = false) := by
        show _ = _
        cases h : s1 with
        | false => rfl
        | true => have h1 := QA.out h; exact decide_eq_false (by omega)
      generalize decide (lo < la) = z at *
      refine told_val (v := .bool (s1 && z)) (fun _ => rfl) (fun vs W hW => ?_) ?_
      · cases s1 <;> cases z <;> (go_simp; exact loose_val)
      simp only [Act.put, List.setIfInBounds_toArray, List.set_cons_zero, List.set_cons_succ, List.nil_append, List.cons_append, Nat.reduceAdd, Leaves.at]
      rw [QB.out]
      refine told_nil ?_
      intro vs W8 hW8 hok hap
      clear hap
      dsimp only
      have B8 := hid (B7.out.trans hW8)
      have HF8 := hid (fun W (hW : But nil_ W8 W) => HF7.out W (hW8.trans hW))
      clear hok hW8
      go_wp2_with (refine wp_list_told 19 19 nil_ rfl (by decide) ?_)
      simp only [List.take_succ_cons, List.take_zero, List.drop_succ_cons, List.drop_zero]
      repeat (refine told_val (v := ?_) (fun _ => rfl) (fun vs W hW => ?_) ?_; rotate_left; (focus (have hf := HF8.out W hW; clear hW; go_simp; exact loose_val)); simp only [Act.put, List.setIfInBounds_toArray, List.set_cons_zero, List.set_cons_succ, List.nil_append, List.cons_append, Nat.reduceAdd, Leaves.at])
      refine told_val (v := .bool pr) (fun _ => rfl) (fun vs W hW => ?_) ?_
      · go_simp
        exact loose_call (U3.out W (B8.out.trans hW))
      simp only [Act.put, List.setIfInBounds_toArray, List.set_cons_zero, List.set_cons_succ, List.nil_append, List.cons_append, Nat.reduceAdd, Leaves.at]
      repeat (refine told_val (v := ?_) (fun _ => rfl) (fun vs W hW => ?_) ?_; rotate_left; (focus (have hf := HF8.out W hW; clear hW; go_simp; exact loose_val)); simp only [Act.put, List.setIfInBounds_toArray, List.set_cons_zero, List.set_cons_succ, List.nil_append, List.cons_append, Nat.reduceAdd, Leaves.at])
      repeat (refine told_maybe (b := pr) (v := ?_) (fun _ => Bool.casesOn pr rfl rfl) (fun hb vs W hW => ?_) ?_; rotate_left; (focus (have hf := HF8.out W hW; clear hW; (try simp only [hb, cond_true, cond_false]); go_simp; exact loose_val)); simp only [Act.put, List.setIfInBounds_toArray, List.set_cons_zero, List.set_cons_succ, List.nil_append, List.cons_append, Nat.reduceAdd, Leaves.at])
      have QC : Hid ((pr && (la != 0)) = true → lb ≠ 0 → max la lb ≤ lo) := fun h h2 => by
        rw [Bool.and_eq_true] at h
        exact Q3.out h.1 (by simpa using h.2) h2
      generalize (la != 0) = y1 at *
      refine told_val (v := .bool (pr && y1)) (fun _ => rfl) (fun vs W hW => ?_) ?_
      · cases pr <;> cases y1 <;> (go_simp; exact loose_val)
      simp only [Act.put, List.setIfInBounds_toArray, List.set_cons_zero, List.set_cons_succ, List.nil_append, List.cons_append, Nat.reduceAdd, Leaves.at]
      generalize (pr && y1) = s2 at *
      repeat (refine told_val (v := ?_) (fun _ => rfl) (fun vs W hW => ?_) ?_; rotate_left; (focus (have hf := HF8.out W hW; clear hW; go_simp; exact loose_val)); simp only [Act.put, List.setIfInBounds_toArray, List.set_cons_zero, List.set_cons_succ, List.nil_append, List.cons_append, Nat.reduceAdd, Leaves.at])
      repeat (refine told_maybe (b := s2) (v := ?_) (fun _ => Bool.casesOn s2 rfl rfl) (fun hb vs W hW => ?_) ?_; rotate_left; (focus (have hf := HF8.out W hW; clear hW; (try simp only [hb, cond_true, cond_false]); go_simp; exact loose_val)); simp only [Act.put, List.setIfInBounds_toArray, List.set_cons_zero, List.set_cons_succ, List.nil_append, List.cons_append, Nat.reduceAdd, Leaves.at])
      have QD : Hid ((s2 && (lb != 0)) = true → max la lb ≤ lo) := fun h => by
        rw [Bool.and_eq_true] at h
        exact QC.out h.1 (by simpa using h.2)
      generalize (lb != 0) = y2 at *
      refine told_val (v := .bool (s2 && y2)) (fun _ => rfl) (fun vs W hW => ?_) ?_
      · cases s2 <;> cases y2 <;> (go_simp; exact loose_val)
      simp only [Act.put, List.setIfInBounds_toArray, List.set_cons_zero, List.set_cons_succ, List.nil_append, List.cons_append, Nat.reduceAdd, Leaves.at]
      generalize (s2 && y2) = s3 at *
      repeat (refine told_val (v := ?_) (fun _ => rfl) (fun vs W hW => ?_) ?_; rotate_left; (focus (have hf := HF8.out W hW; clear hW; go_simp; exact loose_val)); simp only [Act.put, List.setIfInBounds_toArray, List.set_cons_zero, List.set_cons_succ, List.nil_append, List.cons_append, Nat.reduceAdd, Leaves.at])
      repeat (refine told_maybe (b := s3) (v := ?_) (fun _ => Bool.casesOn s3 rfl rfl) (fun hb vs W hW => ?_) ?_; rotate_left; (focus (have hf := HF8.out W hW; clear hW; (try simp only [hb, cond_true, cond_false]); go_simp; exact loose_val)); simp only [Act.put, List.setIfInBounds_toArray, List.set_cons_zero, List.set_cons_succ, List.nil_append, List.cons_append, Nat.reduceAdd, Leaves.at])
      have QT : Hid ((s3 && decide (lo < max la lb)) = false) := by
        show _ = _
        cases h : s3 with
        | false => rfl
        | true => have h1 := QD.out h; exact decide_eq_false (by omega)
      generalize decide (lo < max la lb) = z3 at *
      refine told_val (v := .bool (s3 && z3)) (fun _ => rfl) (fun vs W hW => ?_) ?_
      · cases s3 <;> cases z3 <;> (go_simp; exact loose_val)
      simp only [Act.put, List.setIfInBounds_toArray, List.set_cons_zero, List.set_cons_succ, List.nil_append, List.cons_append, Nat.reduceAdd, Leaves.at]
      rw [QT.out]
      refine told_nil ?_
      intro vs W9 hW9 hok hap
      clear hap
      dsimp only
      have B9 := hid (B8.out.trans hW9)
      clear hok hW9
      go_wp2_with fail
      go_roundw
      case measure => simp [intOf] <;> omega
      case rel => exact ⟨k + 1, by omega, by go_num, B9.out⟩
    · have hltz : ¬ (k : Int) < (n : Int) := by omega
      go_wp2_with fail
      go_ret
      exact ⟨rfl, HBr.out⟩

theorem fits {H : Type} : ∀ ds : List (DataW H), ds.length = Try.f16.params.toList.length → Rows.flowGatesSpec.fn H ds = { results := [.lit (.bool true)], args := ds } := by
  intro ds h
  rw [Try.params16] at h
  match ds, h with
  | [e0, e1, e2], _ => rfl

set_option maxRecDepth 100000 in
theorem contract (H : Type) (enc : TypeId × Value → H) (W : World) (base : Nat) (args : Array Value) (ds gs : List (DataW H)) (before : List MemPlace)
    (hval0 : ∀ (j : Nat) t v, Try.f16.params[j]? = some t → args[j]? = some v → Value.okWide Try.prog W .any base t v)
    (hW : DataW.Whole enc Try.prog Try.f16.params.toList Rows.flowGatesSpec.vars false W args.toList ds gs before) (hk : Rows.uptoSmall H (ds ++ gs) = true) :
    Calls Try.prog 16 args W fun e W' => ∃ v, e = .returned v ∧ Rows.flowGatesSpec.post enc Try.prog Try.f16 false true false false W args v W' := by
  have hval : ∀ (j : Nat) t v, Try.f16.params[j]? = some t → args[j]? = some v → Value.okWide Try.prog W .any base t v := hval0
  have hpost : ∀ W', Below W.heap.size W W' → Rows.flowGatesSpec.post enc Try.prog Try.f16 false true false false W args (.bool true) W' := fun W' hb =>
    law_post rfl rfl Try.underlying4 laidOut (by kernel_rfl) fits hW hb
  obtain ⟨p, q, hA0, hV, rfl, hfz, hnd⟩ := hW
  have hA : DataW.TrodAll enc Try.prog W 0 (fun _ => true) true Try.f16.params.toList args.toList ds p := hA0
  rw [Try.params16] at hA hval
  obtain ⟨rfl, rfl⟩ := trodVars_none hV
  obtain ⟨v0, vs0, dd0, ds0, p0, q0, hargs, rfl, rfl, h0, hr0⟩ := trodAll_cons hA
  obtain ⟨v1, vs1, dd1, ds1, p1, q1, rfl, rfl, rfl, h1, hr1⟩ := trodAll_cons hr0
  obtain ⟨v2, vs2, dd2, ds2, p2, q2, rfl, rfl, rfl, h2, hr2⟩ := trodAll_cons hr1
  obtain ⟨rfl, rfl, rfl⟩ := trodAll_nil hr2
  obtain rfl : args = #[v0, v1, v2] := by cases args; simp_all
  obtain ⟨d0, A0, n0, c0, l0, e0, E0, m0, k0, r0, rfl, T0, U0, F0, B0⟩ := open_who (hval 0 43 v0 rfl rfl) h0
  obtain ⟨d1, A1, n1, c1, l1, e1, E1, m1, k1, r1, rfl, T1, U1, F1, B1⟩ := open_who (hval 1 43 v1 rfl rfl) h1
  obtain ⟨d2, A2, n2, c2, l2, e2, E2, m2, k2, r2, rfl, T2, U2, F2, B2⟩ := open_who (hval 2 43 v2 rfl rfl) h2
  have hbk := small_of hk
  simp only [List.append_nil, List.cons_append, List.nil_append, Rows.uptoBulkAll] at hbk
  refine (walk d0 A0 n0 c0 l0 e0 E0 m0 k0 r0 d1 A1 n1 c1 l1 e1 E1 m1 k1 r1 d2 A2 n2 c2 l2 e2 E2 m2 k2 r2 W T0 U0 T1 U1 T2 U2 (by omega) (by omega) (by omega) (by omega) (by omega) (by omega)).mono fun e W' ⟨he, hg⟩ => ?_
  subst he
  exact ⟨_, rfl, hpost W' hg⟩

set_option maxRecDepth 100000 in
theorem lifted (os : Os) (started : os.Started) (H : Type) (enc : TypeId × Value → H) (F : Stop.Interp) :
    ReturnsInHanded {} Try.checked os 16 .any ((Rows.OpenSpec.upto Rows.flowGatesSpec).pre6 enc Try.prog Try.f16 Rows.flowGatesUptoRow.domain false) (((Rows.OpenSpec.upto Rows.flowGatesSpec).at F).post enc Try.prog Try.f16 false true false false) := by
  refine returnsInHanded_of_cond (C := Try.checked) (s := Rows.OpenSpec.upto Rows.flowGatesSpec) (k := Rows.uptoSmall) rfl own started (by kernel_rfl) Try.func16
    (OpenSpec.witness (enc := enc) (C := Try.checked) (s := Rows.OpenSpec.upto Rows.flowGatesSpec) (k := Rows.uptoSmall) rfl false ⟨#[], #[.agg #[.int .i64 0, .slice none 0 0, .int .i64 0, .slice none 0 0], .agg #[.int .i64 0, .slice none 0 0, .int .i64 0, .slice none 0 0], .agg #[.int .i64 0, .slice none 0 0, .int .i64 0, .slice none 0 0]], []⟩ 8 (by kernel_rfl) (by kernel_rfl) (by kernel_rfl)
      (x := ([.agg [.agg [.lit (.int .i64 0), .nil], .agg [.lit (.int .i64 0), .nil]], .agg [.agg [.lit (.int .i64 0), .nil], .agg [.lit (.int .i64 0), .nil]], .agg [.agg [.lit (.int .i64 0), .nil], .agg [.lit (.int .i64 0), .nil]]], [], [])) (by kernel_rfl) rfl (by kernel_rfl)) ?_
  intro W base args ds gs before hval hW _ hk _
  exact contract H enc W base args ds gs before hval hW hk

theorem closed : joinedFacts Try.prog 16 Try.f16 (Rows.OpenSpec.upto Rows.flowGatesSpec).bare Rows.flowGatesUptoRow = true := by
  unfold joinedFacts
  rw [enters, finals, made]
  kernel_rfl

theorem proved : Rows.FlowGatesUptoSaid :=
  OpenClaim.holds_of_cond 16 Try.f16 rfl rfl rfl rfl rfl rfl rfl ⟨rfl, rfl, rfl, rfl, rfl⟩ rfl rfl rfl rfl rfl (by kernel_rfl) Try.func16 closed
    (of_decide_eq_true (by kernel_rfl)) (by unfold Func.isWrapper; rw [if_neg (by decide +kernel)]; exact ⟨rfl, rfl⟩)
    (fun os started H enc _ F => lifted os started H enc F)
end Go.Proofs.Ytndohmimcbmhdaa.lawFlowGates
