/-
  FlowOwner: called with any values of its parameters, the law answers true, and of what lay in memory nothing has turned. No condition.
-/
import Derived.Test.YtndohmimcbmhdaaRows
import Derived.Test.YtndohmimcbmhdaaFrame
import Derived.Test.YtndohmimcbmhdaaHead
import Derived.Test.YtndohmimcbmhdaaOp
import Derived.Test.YtndohmimcbmhdaaFo
set_option linter.unusedVariables false
set_option linter.unusedSimpArgs false
namespace Go.Proofs.Ytndohmimcbmhdaa.lawFlowOwner
open Go.ChangeShapes Go.WideShapes Go.ChangeAt Go.RowKit Go.Sort

theorem own : ownKnob Try.prog.godebug = none := by kernel_rfl
theorem laidOut : laidOutB Try.prog = true := by kernel_rfl

/-- A who whose label is told by its list. -/
def WhoL (d : Int) (F : List (Int × Int)) (e : Int) (E : Option Addr) (m k : Nat) (W : World) (v : Value) : Prop := ∃ A n c, v = .agg #[.int .i64 d, .slice A n c, .int .i64 e, .slice E m k] ∧ CatsAt W W.heap.size A n c F
theorem WhoL.stable {d : Int} {F : List (Int × Int)} {e : Int} {E : Option Addr} {m k : Nat} {w : World} : (Leaves.rel (WhoL d F e E m k)).stable nil_ w :=
  fun W W' u _ hb ⟨A, n, c, he, hT⟩ => ⟨A, n, c, he, (hT.below (since_below hb (Nat.le_refl _))).more hb.size⟩
theorem bare43 {w : World} {g : Nat} {a b : Int} {A B : Option Addr} {n c m k : Nat} (h : Blk w g 43 #[.int .i64 a, .slice A n c, .int .i64 b, .slice B m k]) : Bare w g :=
  ⟨_, _, h, fun i x => by
    match i with
    | 0 => simp
    | 1 => simp
    | 2 => simp
    | 3 => simp
    | i + 4 => simp⟩
theorem who_zero {W : World} {r : Nat} {a b c d : Value} (h : Blk W r 43 #[a, b, c, d]) : (W.cell? ⟨r, 0, none⟩ = some a ∧ W.cell? ⟨r, 1, none⟩ = some b ∧ W.cell? ⟨r, 2, none⟩ = some c ∧ W.cell? ⟨r, 3, none⟩ = some d) ∧ (W.frozen? ⟨r, 0, none⟩ = false ∧ W.frozen? ⟨r, 1, none⟩ = false ∧ W.frozen? ⟨r, 2, none⟩ = false ∧ W.frozen? ⟨r, 3, none⟩ = false) :=
  ⟨h.cells4, Blk.frozen h 0, Blk.frozen h 1, Blk.frozen h 2, Blk.frozen h 3⟩
theorem put4 {w : World} {g : Nat} {a b c d : Value} (hg : Blk w g 43 #[a, b, c, d]) (x y z u : Value) :
    ∃ W, (((w.setCell ⟨g, 0, none⟩ x).setCell ⟨g, 1, none⟩ y).setCell ⟨g, 2, none⟩ z).setCell ⟨g, 3, none⟩ u = W ∧ Blk W g 43 #[x, y, z, u] ∧ But (fun k => k = g) w W := by
  have h1 := Blk.set_ (Blk.set_ (Blk.set_ (Blk.set_ hg 0 x) 1 y) 2 z) 3 u
  exact ⟨_, rfl, h1, ((((But.refl (fun k => k = g) w).setCell (p := ⟨g, 0, none⟩) (.inl rfl) _).setCell (p := ⟨g, 1, none⟩) (.inl rfl) _).setCell (p := ⟨g, 2, none⟩) (.inl rfl) _).setCell (p := ⟨g, 3, none⟩) (.inl rfl) _⟩

set_option maxHeartbeats 4000000 in
set_option maxRecDepth 100000 in
theorem walk (d0 : Int) (A0 : Option Addr) (n0 : Nat) (c0 : Nat) (l0 : List (Int × Int)) (e0 : Int) (E0 : Option Addr) (m0 : Nat) (k0 : Nat) (r0 : List (Int × Int)) (a1 : Int) (a2 : Int) (w : World) (t0 : CatsAt w w.heap.size A0 n0 c0 l0) (u0 : CatsAt w w.heap.size E0 m0 k0 r0) (b1 : 0 ≤ a1 ∧ a1 ≤ 18446744073709551615) (b2 : -9223372036854775808 ≤ a2 ∧ a2 ≤ 9223372036854775807) (z0 : n0 ≤ 8796093022207) (y0 : m0 ≤ 8796093022207) :
    Calls Try.prog 12 #[.agg #[.int .i64 d0, .slice A0 n0 c0, .int .i64 e0, .slice E0 m0 k0], .int .u64 a1, .int .i64 a2] w fun e w' => e = .returned (.bool true) ∧ Below w.heap.size w w' := by
  have mixed : Try.prog.follows .mixedOrders = true := by kernel_rfl
  have HB : Hid (Below w.heap.size w (w.alloc (.cells #[.int .i64 d0, .slice A0 n0 c0, .int .i64 e0, .slice E0 m0 k0] 43))) := (Below.refl _ w).alloc (Nat.le_refl _) _
  have HP : Hid (Blk (w.alloc (.cells #[.int .i64 d0, .slice A0 n0 c0, .int .i64 e0, .slice E0 m0 k0] 43)) w.heap.size 43 #[.int .i64 d0, .slice A0 n0 c0, .int .i64 e0, .slice E0 m0 k0]) := Blk.new w 43 _
  have H0 := hid ((t0.below HB.out).more HB.out.size)
  have G0 := hid ((u0.below HB.out).more HB.out.size)
  clear t0 u0
  go_enter Try.func12, Try.ntmps12
  go_wp2_with fail
  generalize w.alloc (.cells #[.int .i64 d0, .slice A0 n0 c0, .int .i64 e0, .slice E0 m0 k0] 43) = wa at *
  refine (alive53 wa).mono ?_
  rintro e w1 ⟨rfl, hb1⟩
  have HB1 := hid (HB.out.trans (hb1.mono HB.out.size))
  have HP1 := hid (HP.out.below hb1 HP.out.lt)
  have H01 := hid ((H0.out.below hb1).more hb1.size)
  have G01 := hid ((G0.out.below hb1).more hb1.size)
  clear hb1
  have HF : Hid (∀ W, But nil_ w1 W → W.cell? ⟨w.heap.size, 0, none⟩ = some (.int .i64 d0) ∧ W.cell? ⟨w.heap.size, 1, none⟩ = some (.slice A0 n0 c0) ∧ W.cell? ⟨w.heap.size, 2, none⟩ = some (.int .i64 e0) ∧ W.cell? ⟨w.heap.size, 3, none⟩ = some (.slice E0 m0 k0)) :=
    fun W hW => (hW.blk HP1.out (fun h => h)).cells4
  have HA := hid (fun W (hW : But nil_ w1 W) => right51 W d0 A0 n0 c0 l0 (H01.out.since_ hW))
  have HU : Hid (ownGate d0 l0 a2 a1 = ((((!(rightB d0 l0) || decide (a2 < 1)) || decide (4 < a2)) || decide (a1 < 1)) || decide (2305843009213693951 < a1))) := rfl
  generalize rightB d0 l0 = q at *
  go_wp2_with (refine wp_list_told 20 20 nil_ rfl (by decide) ?_)
  simp only [List.take_succ_cons, List.take_zero, List.drop_succ_cons, List.drop_zero]
  repeat (refine told_val (v := ?_) (fun _ => rfl) (fun vs W hW => ?_) ?_; rotate_left; (focus (have hf := HF.out W hW; clear hW; go_simp; exact loose_val)); simp only [Act.put, List.setIfInBounds_toArray, List.set_cons_zero, List.set_cons_succ, List.nil_append, List.cons_append, Nat.reduceAdd, Leaves.at])
  refine told_val (v := .bool q) (fun _ => rfl) (fun vs W hW => ?_) ?_
  · go_simp
    exact loose_call (HA.out W hW)
  simp only [Act.put, List.setIfInBounds_toArray, List.set_cons_zero, List.set_cons_succ, List.nil_append, List.cons_append, Nat.reduceAdd, Leaves.at]
  repeat (refine told_val (v := ?_) (fun _ => rfl) (fun vs W hW => ?_) ?_; rotate_left; (focus (have hf := HF.out W hW; clear hW; go_simp; exact loose_val)); simp only [Act.put, List.setIfInBounds_toArray, List.set_cons_zero, List.set_cons_succ, List.nil_append, List.cons_append, Nat.reduceAdd, Leaves.at])
  generalize (!q) = g1 at *
  repeat (refine told_not (b := g1) (v := ?_) (fun _ => Bool.casesOn g1 rfl rfl) (fun hb vs W hW => ?_) ?_; rotate_left; (focus (have hf := HF.out W hW; clear hW; (try simp only [hb, cond_true, cond_false]); go_simp; exact loose_val)); simp only [Act.put, List.setIfInBounds_toArray, List.set_cons_zero, List.set_cons_succ, List.nil_append, List.cons_append, Nat.reduceAdd, Leaves.at])
  generalize decide (a2 < 1) = x1 at *
  refine told_val (v := .bool (g1 || x1)) (fun _ => rfl) (fun vs W hW => ?_) ?_
  · cases g1 <;> cases x1 <;> (go_simp; exact loose_val)
  simp only [Act.put, List.setIfInBounds_toArray, List.set_cons_zero, List.set_cons_succ, List.nil_append, List.cons_append, Nat.reduceAdd, Leaves.at]
  generalize (g1 || x1) = g2 at *
  repeat (refine told_val (v := ?_) (fun _ => rfl) (fun vs W hW => ?_) ?_; rotate_left; (focus (have hf := HF.out W hW; clear hW; go_simp; exact loose_val)); simp only [Act.put, List.setIfInBounds_toArray, List.set_cons_zero, List.set_cons_succ, List.nil_append, List.cons_append, Nat.reduceAdd, Leaves.at])
  repeat (refine told_not (b := g2) (v := ?_) (fun _ => Bool.casesOn g2 rfl rfl) (fun hb vs W hW => ?_) ?_; rotate_left; (focus (have hf := HF.out W hW; clear hW; (try simp only [hb, cond_true, cond_false]); go_simp; exact loose_val)); simp only [Act.put, List.setIfInBounds_toArray, List.set_cons_zero, List.set_cons_succ, List.nil_append, List.cons_append, Nat.reduceAdd, Leaves.at])
  generalize decide (4 < a2) = x2 at *
  refine told_val (v := .bool (g2 || x2)) (fun _ => rfl) (fun vs W hW => ?_) ?_
  · cases g2 <;> cases x2 <;> (go_simp; exact loose_val)
  simp only [Act.put, List.setIfInBounds_toArray, List.set_cons_zero, List.set_cons_succ, List.nil_append, List.cons_append, Nat.reduceAdd, Leaves.at]
  generalize (g2 || x2) = g3 at *
  repeat (refine told_val (v := ?_) (fun _ => rfl) (fun vs W hW => ?_) ?_; rotate_left; (focus (have hf := HF.out W hW; clear hW; go_simp; exact loose_val)); simp only [Act.put, List.setIfInBounds_toArray, List.set_cons_zero, List.set_cons_succ, List.nil_append, List.cons_append, Nat.reduceAdd, Leaves.at])
  repeat (refine told_not (b := g3) (v := ?_) (fun _ => Bool.casesOn g3 rfl rfl) (fun hb vs W hW => ?_) ?_; rotate_left; (focus (have hf := HF.out W hW; clear hW; (try simp only [hb, cond_true, cond_false]); go_simp; exact loose_val)); simp only [Act.put, List.setIfInBounds_toArray, List.set_cons_zero, List.set_cons_succ, List.nil_append, List.cons_append, Nat.reduceAdd, Leaves.at])
  generalize decide (a1 < 1) = x3 at *
  refine told_val (v := .bool (g3 || x3)) (fun _ => rfl) (fun vs W hW => ?_) ?_
  · cases g3 <;> cases x3 <;> (go_simp; exact loose_val)
  simp only [Act.put, List.setIfInBounds_toArray, List.set_cons_zero, List.set_cons_succ, List.nil_append, List.cons_append, Nat.reduceAdd, Leaves.at]
  generalize (g3 || x3) = g4 at *
  repeat (refine told_val (v := ?_) (fun _ => rfl) (fun vs W hW => ?_) ?_; rotate_left; (focus (have hf := HF.out W hW; clear hW; go_simp; exact loose_val)); simp only [Act.put, List.setIfInBounds_toArray, List.set_cons_zero, List.set_cons_succ, List.nil_append, List.cons_append, Nat.reduceAdd, Leaves.at])
  repeat (refine told_not (b := g4) (v := ?_) (fun _ => Bool.casesOn g4 rfl rfl) (fun hb vs W hW => ?_) ?_; rotate_left; (focus (have hf := HF.out W hW; clear hW; (try simp only [hb, cond_true, cond_false]); go_simp; exact loose_val)); simp only [Act.put, List.setIfInBounds_toArray, List.set_cons_zero, List.set_cons_succ, List.nil_append, List.cons_append, Nat.reduceAdd, Leaves.at])
  generalize decide (2305843009213693951 < a1) = x4 at *
  refine told_val (v := .bool (g4 || x4)) (fun _ => rfl) (fun vs W hW => ?_) ?_
  · cases g4 <;> cases x4 <;> (go_simp; exact loose_val)
  simp only [Act.put, List.setIfInBounds_toArray, List.set_cons_zero, List.set_cons_succ, List.nil_append, List.cons_append, Nat.reduceAdd, Leaves.at]
  generalize (g4 || x4) = g5 at *
  refine told_nil ?_
  intro vs W2 hW2 hok hap
  clear hap
  dsimp only
  have HW2 := hid hW2
  have HB2 := hid (HB1.out.trans (since_below hW2 HB1.out.size))
  clear hok hW2
  cases g5 with
  | true =>
    go_wp2_with fail
    go_ret
    exact ⟨rfl, HB2.out⟩
  | false =>
    obtain ⟨hr, h1, h2⟩ := own_gate HU.out
    have hn6 : n0 ≤ 6 := by rw [← H01.out.len]; exact (right_def hr).2.2
    clear HU HA
    have hd0 := raise_def hr
    have R1 := hid (own_reads hr a1 0 a2 (.inl rfl) h2)
    have R2 := hid (own_reads hr a1 0 1 (.inl rfl) (by omega))
    have V1 : Hid (writesB d0 (formL d0 ((a1, 0) :: l0)) d0 (formL d0 ((a1, a2) :: raiseL d0 l0)) = true) := by show _ = _; rw [own_writes hr a1 0 a2 (.inl rfl) h2]; exact decide_eq_true (by omega)
    have V2 : Hid (writesB d0 (formL d0 ((a1, 0) :: l0)) d0 (formL d0 ((a1, 4) :: raiseL d0 l0)) = true) := by show _ = _; rw [own_writes hr a1 0 4 (.inl rfl) (by omega)]; exact decide_eq_true (by omega)
    have V3 : Hid (writesB d0 (formL d0 ((a1, 4) :: l0)) d0 (formL d0 ((a1, a2) :: raiseL d0 l0)) = (a2 == 4)) := by
      show _ = _
      rw [own_writes hr a1 4 a2 (.inr rfl) h2, Bool.eq_iff_iff, decide_eq_true_eq, beq_iff_eq]
      omega
    have R3 := hid (own_reads hr a1 4 a2 (.inr rfl) h2)
    have HX1 := hid (set_twice (d := d0) a1 a2 1 (raiseL d0 l0))
    have HX4 := hid (set_twice (d := d0) a1 a2 4 (raiseL d0 l0))
    have hrl := raiseL_len d0 l0
    have hl0 := H01.out.len
    have hlo := formL_len d0 ((a1, 0) :: l0)
    have hlt := formL_len d0 ((a1, 4) :: l0)
    have hll := formL_len d0 ((a1, a2) :: raiseL d0 l0)
    have hll1 := formL_len d0 ((a1, 1) :: raiseL d0 l0)
    have hll4 := formL_len d0 ((a1, 4) :: raiseL d0 l0)
    simp only [List.length_cons] at hlo hlt hll hll1 hll4
    have BN : Hid ((formL d0 ((a1, 0) :: l0)).length ≤ 100 ∧ (formL d0 ((a1, 4) :: l0)).length ≤ 100 ∧ (formL d0 ((a1, a2) :: raiseL d0 l0)).length ≤ 100 ∧ (formL d0 ((a1, 1) :: raiseL d0 l0)).length ≤ 100 ∧ (formL d0 ((a1, 4) :: raiseL d0 l0)).length ≤ 100 ∧ (raiseL d0 l0).length ≤ 100) := ⟨by omega, by omega, by omega, by omega, by omega, by omega⟩
    clear hrl hl0 hlo hlt hll hll1 hll4
    have C1 : Hid (∀ W A n c, CatsAt W W.heap.size A n c l0 → n ≤ 6 → Calls Try.prog 49 #[.agg #[.int .i64 d0, .slice A n c], .int .u64 a1, .int .i64 0] W fun e w' => RetLab d0 (formL d0 ((a1, 0) :: l0)) W e w') := fun W A n c h hn => set49_l W d0 A n c l0 a1 0 h (by omega)
    have C2 : Hid (∀ W A n c, CatsAt W W.heap.size A n c l0 → n ≤ 6 → Calls Try.prog 49 #[.agg #[.int .i64 d0, .slice A n c], .int .u64 a1, .int .i64 4] W fun e w' => RetLab d0 (formL d0 ((a1, 4) :: l0)) W e w') := fun W A n c h hn => set49_l W d0 A n c l0 a1 4 h (by omega)
    have C3 : Hid (∀ W A n c, CatsAt W W.heap.size A n c l0 → n ≤ 6 → Calls Try.prog 46 #[.agg #[.int .i64 d0, .slice A n c]] W fun e w' => RetLab d0 (raiseL d0 l0) W e w') := fun W A n c h hn => by
      have := raise46_l W d0 A n c l0 h (by omega)
      rw [hd0] at this
      exact this
    have C4 : Hid (∀ W A n c, CatsAt W W.heap.size A n c (raiseL d0 l0) → Calls Try.prog 49 #[.agg #[.int .i64 d0, .slice A n c], .int .u64 a1, .int .i64 a2] W fun e w' => RetLab d0 (formL d0 ((a1, a2) :: raiseL d0 l0)) W e w') := fun W A n c h => set49_l W d0 A n c _ a1 a2 h (by have := h.len; have := BN.out; omega)
    have C5 : Hid (∀ W A n c, CatsAt W W.heap.size A n c (formL d0 ((a1, a2) :: raiseL d0 l0)) → Calls Try.prog 49 #[.agg #[.int .i64 d0, .slice A n c], .int .u64 a1, .int .i64 1] W fun e w' => RetLab d0 (formL d0 ((a1, 1) :: raiseL d0 l0)) W e w') := fun W A n c h => by
      have := set49_l W d0 A n c _ a1 1 h (by have := h.len; have := BN.out; omega)
      rw [HX1.out] at this
      exact this
    have C6 : Hid (∀ W A n c, CatsAt W W.heap.size A n c (formL d0 ((a1, a2) :: raiseL d0 l0)) → Calls Try.prog 49 #[.agg #[.int .i64 d0, .slice A n c], .int .u64 a1, .int .i64 4] W fun e w' => RetLab d0 (formL d0 ((a1, 4) :: raiseL d0 l0)) W e w') := fun W A n c h => by
      have := set49_l W d0 A n c _ a1 4 h (by have := h.len; have := BN.out; omega)
      rw [HX4.out] at this
      exact this
    clear HX1 HX4 hr hd0
    generalize formL d0 ((a1, 0) :: l0) = lo at *
    generalize formL d0 ((a1, 4) :: l0) = lt at *
    generalize formL d0 ((a1, a2) :: raiseL d0 l0) = ll at *
    generalize formL d0 ((a1, 1) :: raiseL d0 l0) = ll1 at *
    generalize formL d0 ((a1, 4) :: raiseL d0 l0) = ll4 at *
    generalize raiseL d0 l0 = rl at *
    have HF2 := hid (fun W (hW : But nil_ W2 W) => HF.out W (HW2.out.trans hW))
    have H02 := hid (H01.out.since_ HW2.out)
    have G02 := hid (G01.out.since_ HW2.out)
    have HP2 := hid (HP1.out.below (since_below HW2.out (Nat.le_refl _)) HP1.out.lt)
    clear H01 G01 HP1 HF
    go_wp2_with fail
    refine wp_region_told 8 nil_ mixed (by kernel_rfl) ?_
    simp only [List.take_succ_cons, List.take_zero, List.drop_succ_cons, List.drop_zero]
    repeat (refine told_val (v := ?_) (fun _ => rfl) (fun vs W hW => ?_) ?_; rotate_left; (focus (have hf := HF2.out W hW; clear hW; go_simp; exact loose_val)); simp only [Act.put, List.setIfInBounds_toArray, List.set_cons_zero, List.set_cons_succ, List.nil_append, List.cons_append, Nat.reduceAdd, Leaves.at])
    refine told_rel (LabR d0 lo) LabR.stable (fun _ => rfl) (fun vs W hW hd => ?_) ?_
    · clear hd
      go_simp
      exact loose_callR (C1.out W A0 n0 c0 (H02.out.since_ hW) hn6)
    simp only [Act.put, List.setIfInBounds_toArray, List.set_cons_zero, List.set_cons_succ, List.nil_append, List.cons_append, Nat.reduceAdd, Leaves.at]
    repeat (refine told_val (v := ?_) (fun _ => rfl) (fun vs W hW => ?_) ?_; rotate_left; (focus (have hf := HF2.out W hW; clear hW; go_simp; exact loose_val)); simp only [Act.put, List.setIfInBounds_toArray, List.set_cons_zero, List.set_cons_succ, List.nil_append, List.cons_append, Nat.reduceAdd, Leaves.at])
    refine told_rel (WhoL d0 lo e0 E0 m0 k0) (WhoL.stable) (fun _ => rfl) (fun vs W hW hd => ?_) ?_
    · (obtain ⟨P3, m3', k3', e3', hT3⟩ := hd ⟨3, .data⟩ (by simp) rfl _ rfl (fun h => by cases h); clear hd; go_simp; exact loose_rel (But.refl _ _) ⟨P3, m3', k3', rfl, hT3⟩)
    simp only [Act.put, List.setIfInBounds_toArray, List.set_cons_zero, List.set_cons_succ, List.nil_append, List.cons_append, Nat.reduceAdd, Leaves.at]
    refine told_fresh (NewPtr W2.heap.size 43 #[.int .i64 0, .slice none 0 0, .int .i64 0, .slice none 0 0]) (NewPtr.fresh (fun _ hk => by first | exact hk.elim | (have := hk; omega))) (fun _ => rfl) (fun vs W hW hd => ?_) ?_
    · go_simp
      exact loose_freshPtr hW.size
    simp only [Act.put, List.setIfInBounds_toArray, List.set_cons_zero, List.set_cons_succ, List.nil_append, List.cons_append, Nat.reduceAdd, Leaves.at]
    refine told_nil ?_
    intro vs W hW hok hap
    dsimp only
    obtain ⟨X, nx, cx, e6, hX⟩ := hok 6 _ rfl rfl
    obtain ⟨⟨p, e7, hpp, kp⟩, -⟩ := hok 7 _ rfl rfl
    rw [e6, e7]
    have HW := hid hW
    have HX := hid hX
    have KP := hid kp
    obtain ⟨⟨z10, z11, z12, z13⟩, z14, z15, z16, z17⟩ := who_zero kp
    clear hok hap hW hX kp e6 e7
    go_wp2_with fail
    obtain ⟨Wb, hwp, K1, BW⟩ := put4 KP.out (.int .i64 d0) (.slice X nx cx) (.int .i64 e0) (.slice E0 m0 k0)
    rw [hwp]
    have hs := HW.out.size
    have hs2 := BW.size
    have HXb := hid ((HX.out.keep (Nat.le_refl _) BW fun g hg => by subst hg; exact bare43 KP.out).more hs2)
    have HBb : Hid (Below W2.heap.size W2 Wb) := BW.done (since_below HW.out (Nat.le_refl _)) (fun k hk => by subst hk; omega) hs
    have H03 := hid ((H02.out.below HBb.out).more HBb.out.size)
    have G03 := hid ((G02.out.below HBb.out).more HBb.out.size)
    have HP3 := hid (HP2.out.below HBb.out HP2.out.lt)
    have HB3 := hid (HB2.out.trans (HBb.out.mono HB2.out.size))
    have K1 := hid K1
    clear hwp BW hs hs2 z10 z11 z12 z13 z14 z15 z16 z17 HW HX KP
    have HF3 := hid (fun W (hW : But nil_ Wb W) => (hW.blk HP3.out (fun h => h)).cells4)
    refine wp_region_told 8 nil_ mixed (by kernel_rfl) ?_
    simp only [List.take_succ_cons, List.take_zero, List.drop_succ_cons, List.drop_zero]
    repeat (refine told_val (v := ?_) (fun _ => rfl) (fun vs W hW => ?_) ?_; rotate_left; (focus (have hf := HF3.out W hW; clear hW; go_simp; exact loose_val)); simp only [Act.put, List.setIfInBounds_toArray, List.set_cons_zero, List.set_cons_succ, List.nil_append, List.cons_append, Nat.reduceAdd, Leaves.at])
    refine told_rel (LabR d0 lt) LabR.stable (fun _ => rfl) (fun vs W hW hd => ?_) ?_
    · clear hd
      go_simp
      exact loose_callR (C2.out W A0 n0 c0 (H03.out.since_ hW) hn6)
    simp only [Act.put, List.setIfInBounds_toArray, List.set_cons_zero, List.set_cons_succ, List.nil_append, List.cons_append, Nat.reduceAdd, Leaves.at]
    repeat (refine told_val (v := ?_) (fun _ => rfl) (fun vs W hW => ?_) ?_; rotate_left; (focus (have hf := HF3.out W hW; clear hW; go_simp; exact loose_val)); simp only [Act.put, List.setIfInBounds_toArray, List.set_cons_zero, List.set_cons_succ, List.nil_append, List.cons_append, Nat.reduceAdd, Leaves.at])
    refine told_rel (WhoL d0 lt e0 E0 m0 k0) (WhoL.stable) (fun _ => rfl) (fun vs W hW hd => ?_) ?_
    · (obtain ⟨P3, m3', k3', e3', hT3⟩ := hd ⟨3, .data⟩ (by simp) rfl _ rfl (fun h => by cases h); clear hd; go_simp; exact loose_rel (But.refl _ _) ⟨P3, m3', k3', rfl, hT3⟩)
    simp only [Act.put, List.setIfInBounds_toArray, List.set_cons_zero, List.set_cons_succ, List.nil_append, List.cons_append, Nat.reduceAdd, Leaves.at]
    refine told_fresh (NewPtr Wb.heap.size 43 #[.int .i64 0, .slice none 0 0, .int .i64 0, .slice none 0 0]) (NewPtr.fresh (fun _ hk => by first | exact hk.elim | (have := hk; omega))) (fun _ => rfl) (fun vs W hW hd => ?_) ?_
    · go_simp
      exact loose_freshPtr hW.size
    simp only [Act.put, List.setIfInBounds_toArray, List.set_cons_zero, List.set_cons_succ, List.nil_append, List.cons_append, Nat.reduceAdd, Leaves.at]
    refine told_nil ?_
    intro vs W hW hok hap
    dsimp only
    obtain ⟨Y, ny, cy, e6, hX⟩ := hok 6 _ rfl rfl
    obtain ⟨⟨q, e7, hpq, kp⟩, -⟩ := hok 7 _ rfl rfl
    rw [e6, e7]
    have HW := hid hW
    have HX := hid hX
    have KP := hid kp
    obtain ⟨⟨z10, z11, z12, z13⟩, z14, z15, z16, z17⟩ := who_zero kp
    clear hok hap hW hX kp e6 e7
    go_wp2_with (refine wp_list_told 8 7 nil_ rfl (by decide) ?_)
    obtain ⟨Wd, hwp, K2, BW⟩ := put4 KP.out (.int .i64 d0) (.slice Y ny cy) (.int .i64 e0) (.slice E0 m0 k0)
    rw [hwp]
    have hs := HW.out.size
    have hs2 := BW.size
    have HYd := hid ((HX.out.keep (Nat.le_refl _) BW fun g hg => by subst hg; exact bare43 KP.out).more hs2)
    have HBd : Hid (Below Wb.heap.size Wb Wd) := BW.done (since_below HW.out (Nat.le_refl _)) (fun k hk => by subst hk; omega) hs
    have HXd := hid ((HXb.out.below HBd.out).more HBd.out.size)
    have H04 := hid ((H03.out.below HBd.out).more HBd.out.size)
    have G04 := hid ((G03.out.below HBd.out).more HBd.out.size)
    have HP4 := hid (HP3.out.below HBd.out HP3.out.lt)
    have HB4 := hid (HB3.out.trans (HBd.out.mono HB3.out.size))
    have K1d := hid (K1.out.below HBd.out K1.out.lt)
    have K2 := hid K2
    clear hwp BW hs hs2 z10 z11 z12 z13 z14 z15 z16 z17 HW HX KP
    have HF4 := hid (fun W (hW : But nil_ Wd W) => (hW.blk HP4.out (fun h => h)).cells4)
    simp only [List.take_succ_cons, List.take_zero, List.drop_succ_cons, List.drop_zero]
    repeat (refine told_val (v := ?_) (fun _ => rfl) (fun vs W hW => ?_) ?_; rotate_left; (focus (have hf := HF4.out W hW; clear hW; go_simp; exact loose_val)); simp only [Act.put, List.setIfInBounds_toArray, List.set_cons_zero, List.set_cons_succ, List.nil_append, List.cons_append, Nat.reduceAdd, Leaves.at])
    refine told_rel (LabR d0 rl) LabR.stable (fun _ => rfl) (fun vs W hW hd => ?_) ?_
    · clear hd
      go_simp
      exact loose_callR (C3.out W A0 n0 c0 (H04.out.since_ hW) hn6)
    simp only [Act.put, List.setIfInBounds_toArray, List.set_cons_zero, List.set_cons_succ, List.nil_append, List.cons_append, Nat.reduceAdd, Leaves.at]
    repeat (refine told_val (v := ?_) (fun _ => rfl) (fun vs W hW => ?_) ?_; rotate_left; (focus (have hf := HF4.out W hW; clear hW; go_simp; exact loose_val)); simp only [Act.put, List.setIfInBounds_toArray, List.set_cons_zero, List.set_cons_succ, List.nil_append, List.cons_append, Nat.reduceAdd, Leaves.at])
    refine told_rel (LabR d0 ll) LabR.stable (fun _ => rfl) (fun vs W hW hd => ?_) ?_
    · obtain ⟨P2, m2, k2, e2, hT2⟩ := hd ⟨2, .data⟩ (by simp) rfl _ rfl (fun h => by cases h)
      clear hd
      go_simp
      exact loose_callR (C4.out W P2 m2 k2 hT2)
    simp only [Act.put, List.setIfInBounds_toArray, List.set_cons_zero, List.set_cons_succ, List.nil_append, List.cons_append, Nat.reduceAdd, Leaves.at]
    refine told_fresh (NewPtr Wd.heap.size 26 #[.int .i64 0, .slice none 0 0]) (NewPtr.fresh (fun _ hk => by first | exact hk.elim | (have := hk; omega))) (fun _ => rfl) (fun vs W hW hd => ?_) ?_
    · go_simp
      exact loose_freshPtr hW.size
    simp only [Act.put, List.setIfInBounds_toArray, List.set_cons_zero, List.set_cons_succ, List.nil_append, List.cons_append, Nat.reduceAdd, Leaves.at]
    refine told_nil ?_
    intro vs W hW hok hap
    dsimp only
    obtain ⟨Z, nz, cz, e6, hZ⟩ := hok 5 _ rfl rfl
    obtain ⟨⟨r, e7, hr, kp⟩, -⟩ := hok 6 _ rfl rfl
    rw [e6, e7]
    have HW := hid hW
    have HZ := hid hZ
    have KP := hid kp
    obtain ⟨⟨z10, z11⟩, z12, z13⟩ := label_zero kp
    clear hok hap hW hZ kp e6 e7
    go_wp2_with fail
    obtain ⟨Wf, hwp, K3, BW⟩ := put1 KP.out (.int .i64 d0) (.slice Z nz cz)
    rw [hwp]
    have hs := HW.out.size
    have hs2 := BW.size
    have HZf := hid ((HZ.out.keep (Nat.le_refl _) BW fun g hg => by subst hg; exact bare26 KP.out).more hs2)
    have HBf : Hid (Below Wd.heap.size Wd Wf) := BW.done (since_below HW.out (Nat.le_refl _)) (fun k hk => by subst hk; omega) hs
    have HXf := hid ((HXd.out.below HBf.out).more HBf.out.size)
    have HYf := hid ((HYd.out.below HBf.out).more HBf.out.size)
    have G05 := hid ((G04.out.below HBf.out).more HBf.out.size)
    have HB5 := hid (HB4.out.trans (HBf.out.mono HB4.out.size))
    have K1f := hid (K1d.out.below HBf.out K1d.out.lt)
    have K2f := hid (K2.out.below HBf.out K2.out.lt)
    have K3 := hid K3
    clear hwp BW hs hs2 z10 z11 z12 z13 HW HZ KP
    have HN := hid (And.intro HXf.out.len (And.intro HYf.out.len HZf.out.len))
    have HF5 := hid (fun W (hW : But nil_ Wf W) => And.intro (And.intro (hW.blk K1f.out (fun h => h)).cells4 (hW.blk K2f.out (fun h => h)).cells4) (hW.blk K3.out (fun h => h)).cells2)
    have A1 := hid (fun W (hW : But nil_ Wf W) => f54u W d0 X nx cx lo e0 E0 m0 k0 r0 d0 Z nz cz ll (HXf.out.since_ hW) (by have := BN.out; have := HN.out; omega) (G05.out.since_ hW) (HZf.out.since_ hW) (by have := BN.out; have := HN.out; omega))
    rw [R1.out] at A1
    have A2 := hid (fun W (hW : But nil_ Wf W) => f56u W d0 X nx cx lo e0 E0 m0 k0 r0 d0 Z nz cz ll (HXf.out.since_ hW) (by have := BN.out; have := HN.out; omega) (G05.out.since_ hW) (HZf.out.since_ hW) (by have := BN.out; have := HN.out; omega))
    rw [V1.out] at A2
    have A3 := hid (fun W (hW : But nil_ Wf W) => f56u W d0 Y ny cy lt e0 E0 m0 k0 r0 d0 Z nz cz ll (HYf.out.since_ hW) (by have := BN.out; have := HN.out; omega) (G05.out.since_ hW) (HZf.out.since_ hW) (by have := BN.out; have := HN.out; omega))
    rw [V3.out] at A3
    have A4 := hid (fun W (hW : But nil_ Wf W) => f54u W d0 Y ny cy lt e0 E0 m0 k0 r0 d0 Z nz cz ll (HYf.out.since_ hW) (by have := BN.out; have := HN.out; omega) (G05.out.since_ hW) (HZf.out.since_ hW) (by have := BN.out; have := HN.out; omega))
    rw [R3.out] at A4
    refine wp_region_told 20 nil_ mixed (by kernel_rfl) ?_
    simp only [List.take_succ_cons, List.take_zero, List.drop_succ_cons, List.drop_zero]
    repeat (refine told_val (v := ?_) (fun _ => rfl) (fun vs W hW => ?_) ?_; rotate_left; (focus (have hf := HF5.out W hW; clear hW; go_simp; exact loose_val)); simp only [Act.put, List.setIfInBounds_toArray, List.set_cons_zero, List.set_cons_succ, List.nil_append, List.cons_append, Nat.reduceAdd, Leaves.at])
    refine told_val (v := .bool true) (fun _ => rfl) (fun vs W hW => ?_) ?_
    · go_simp
      exact loose_call (A1.out W hW)
    simp only [Act.put, List.setIfInBounds_toArray, List.set_cons_zero, List.set_cons_succ, List.nil_append, List.cons_append, Nat.reduceAdd, Leaves.at]
    repeat (refine told_val (v := ?_) (fun _ => rfl) (fun vs W hW => ?_) ?_; rotate_left; (focus (have hf := HF5.out W hW; clear hW; go_simp; exact loose_val)); simp only [Act.put, List.setIfInBounds_toArray, List.set_cons_zero, List.set_cons_succ, List.nil_append, List.cons_append, Nat.reduceAdd, Leaves.at])
    refine told_rel (LabR d0 ll1) LabR.stable (fun _ => rfl) (fun vs W hW hd => ?_) ?_
    · clear hd
      go_simp
      exact loose_callR (C5.out W _ _ _ (HZf.out.since_ hW))
    simp only [Act.put, List.setIfInBounds_toArray, List.set_cons_zero, List.set_cons_succ, List.nil_append, List.cons_append, Nat.reduceAdd, Leaves.at]
    refine told_val' (v := .bool true) (fun _ => rfl) (fun vs W hW hd => ?_) ?_
    · obtain ⟨P6, m6, k6, e6, hT6⟩ := hd ⟨6, .data⟩ (by simp) rfl _ rfl (fun h => by cases h)
      clear hd
      go_simp
      exact loose_call (by have := f54u W d0 X nx cx lo e0 E0 m0 k0 r0 d0 P6 m6 k6 ll1 (HXf.out.since_ hW) (by have := BN.out; have := HN.out; omega) (G05.out.since_ hW) hT6 (by have := BN.out; have := hT6.len; omega); rw [R2.out] at this; exact this)
    simp only [Act.put, List.setIfInBounds_toArray, List.set_cons_zero, List.set_cons_succ, List.nil_append, List.cons_append, Nat.reduceAdd, Leaves.at]
    repeat (refine told_val (v := ?_) (fun _ => rfl) (fun vs W hW => ?_) ?_; rotate_left; (focus (have hf := HF5.out W hW; clear hW; go_simp; exact loose_val)); simp only [Act.put, List.setIfInBounds_toArray, List.set_cons_zero, List.set_cons_succ, List.nil_append, List.cons_append, Nat.reduceAdd, Leaves.at])
    refine told_val (v := .bool true) (fun _ => rfl) (fun vs W hW => ?_) ?_
    · go_simp
      exact loose_call (A2.out W hW)
    simp only [Act.put, List.setIfInBounds_toArray, List.set_cons_zero, List.set_cons_succ, List.nil_append, List.cons_append, Nat.reduceAdd, Leaves.at]
    repeat (refine told_val (v := ?_) (fun _ => rfl) (fun vs W hW => ?_) ?_; rotate_left; (focus (have hf := HF5.out W hW; clear hW; go_simp; exact loose_val)); simp only [Act.put, List.setIfInBounds_toArray, List.set_cons_zero, List.set_cons_succ, List.nil_append, List.cons_append, Nat.reduceAdd, Leaves.at])
    refine told_rel (LabR d0 ll4) LabR.stable (fun _ => rfl) (fun vs W hW hd => ?_) ?_
    · clear hd
      go_simp
      exact loose_callR (C6.out W _ _ _ (HZf.out.since_ hW))
    simp only [Act.put, List.setIfInBounds_toArray, List.set_cons_zero, List.set_cons_succ, List.nil_append, List.cons_append, Nat.reduceAdd, Leaves.at]
    refine told_val' (v := .bool true) (fun _ => rfl) (fun vs W hW hd => ?_) ?_
    · obtain ⟨P16, m16, k16, e16, hT16⟩ := hd ⟨16, .data⟩ (by simp) rfl _ rfl (fun h => by cases h)
      clear hd
      go_simp
      exact loose_call (by have := f56u W d0 X nx cx lo e0 E0 m0 k0 r0 d0 P16 m16 k16 ll4 (HXf.out.since_ hW) (by have := BN.out; have := HN.out; omega) (G05.out.since_ hW) hT16 (by have := BN.out; have := hT16.len; omega); rw [V2.out] at this; exact this)
    simp only [Act.put, List.setIfInBounds_toArray, List.set_cons_zero, List.set_cons_succ, List.nil_append, List.cons_append, Nat.reduceAdd, Leaves.at]
    repeat (refine told_val (v := ?_) (fun _ => rfl) (fun vs W hW => ?_) ?_; rotate_left; (focus (have hf := HF5.out W hW; clear hW; go_simp; exact loose_val)); simp only [Act.put, List.setIfInBounds_toArray, List.set_cons_zero, List.set_cons_succ, List.nil_append, List.cons_append, Nat.reduceAdd, Leaves.at])
    refine told_nil ?_
    intro vs W8 hW8 hok hap
    clear hap
    dsimp only
    have HW8 := hid hW8
    have HB8 := hid (HB5.out.trans (since_below hW8 HB5.out.size))
    have HF8 := hid (fun W (hW : But nil_ W8 W) => HF5.out W (HW8.out.trans hW))
    clear hok hW8
    go_wp2_with fail
    refine wp_region_told 21 nil_ mixed (by kernel_rfl) ?_
    simp only [List.take_succ_cons, List.take_zero, List.drop_succ_cons, List.drop_zero]
    repeat (refine told_val (v := ?_) (fun _ => rfl) (fun vs W hW => ?_) ?_; rotate_left; (focus (have hf := HF8.out W hW; clear hW; go_simp; exact loose_val)); simp only [Act.put, List.setIfInBounds_toArray, List.set_cons_zero, List.set_cons_succ, List.nil_append, List.cons_append, Nat.reduceAdd, Leaves.at])
    refine told_val (v := .bool (a2 == 4)) (fun _ => rfl) (fun vs W hW => ?_) ?_
    · go_simp
      exact loose_call (A3.out W (HW8.out.trans hW))
    simp only [Act.put, List.setIfInBounds_toArray, List.set_cons_zero, List.set_cons_succ, List.nil_append, List.cons_append, Nat.reduceAdd, Leaves.at]
    repeat (refine told_val (v := ?_) (fun _ => rfl) (fun vs W hW => ?_) ?_; rotate_left; (focus (have hf := HF8.out W hW; clear hW; go_simp; exact loose_val)); simp only [Act.put, List.setIfInBounds_toArray, List.set_cons_zero, List.set_cons_succ, List.nil_append, List.cons_append, Nat.reduceAdd, Leaves.at])
    generalize (a2 == 4) = b at *
    repeat (refine told_maybe (b := b) (v := ?_) (fun _ => Bool.casesOn b rfl rfl) (fun hb vs W hW => ?_) ?_; rotate_left; (focus (have hf := HF8.out W hW; clear hW; (try simp only [hb, cond_true, cond_false]); go_simp; exact loose_val)); simp only [Act.put, List.setIfInBounds_toArray, List.set_cons_zero, List.set_cons_succ, List.nil_append, List.cons_append, Nat.reduceAdd, Leaves.at])
    refine told_maybe (b := b) (v := .bool true) (fun _ => Bool.casesOn b rfl rfl) (fun hb vs W hW => ?_) ?_
    · try simp only [hb, cond_true, cond_false]
      go_simp
      exact loose_call (A2.out W (HW8.out.trans hW))
    simp only [Act.put, List.setIfInBounds_toArray, List.set_cons_zero, List.set_cons_succ, List.nil_append, List.cons_append, Nat.reduceAdd, Leaves.at]
    refine told_val (v := .bool b) (fun _ => rfl) (fun vs W hW => ?_) ?_
    · cases b <;> (go_simp; exact loose_val)
    simp only [Act.put, List.setIfInBounds_toArray, List.set_cons_zero, List.set_cons_succ, List.nil_append, List.cons_append, Nat.reduceAdd, Leaves.at]
    refine told_val' (v := .bool true) (fun _ => rfl) (fun vs W hW hd => ?_) ?_
    · go_simp; (first | exact loose_val | (cases b <;> exact loose_val))
    simp only [Act.put, List.setIfInBounds_toArray, List.set_cons_zero, List.set_cons_succ, List.nil_append, List.cons_append, Nat.reduceAdd, Leaves.at]
    repeat (refine told_val (v := ?_) (fun _ => rfl) (fun vs W hW => ?_) ?_; rotate_left; (focus (have hf := HF8.out W hW; clear hW; go_simp; exact loose_val)); simp only [Act.put, List.setIfInBounds_toArray, List.set_cons_zero, List.set_cons_succ, List.nil_append, List.cons_append, Nat.reduceAdd, Leaves.at])
    refine told_val (v := .bool true) (fun _ => rfl) (fun vs W hW => ?_) ?_
    · go_simp
      exact loose_call (A4.out W (HW8.out.trans hW))
    simp only [Act.put, List.setIfInBounds_toArray, List.set_cons_zero, List.set_cons_succ, List.nil_append, List.cons_append, Nat.reduceAdd, Leaves.at]
    repeat (refine told_val (v := ?_) (fun _ => rfl) (fun vs W hW => ?_) ?_; rotate_left; (focus (have hf := HF8.out W hW; clear hW; go_simp; exact loose_val)); simp only [Act.put, List.setIfInBounds_toArray, List.set_cons_zero, List.set_cons_succ, List.nil_append, List.cons_append, Nat.reduceAdd, Leaves.at])
    refine told_val (v := .bool true) (fun _ => rfl) (fun vs W hW => ?_) ?_
    · go_simp
      exact loose_call (A1.out W (HW8.out.trans hW))
    simp only [Act.put, List.setIfInBounds_toArray, List.set_cons_zero, List.set_cons_succ, List.nil_append, List.cons_append, Nat.reduceAdd, Leaves.at]
    repeat (refine told_val (v := ?_) (fun _ => rfl) (fun vs W hW => ?_) ?_; rotate_left; (focus (have hf := HF8.out W hW; clear hW; go_simp; exact loose_val)); simp only [Act.put, List.setIfInBounds_toArray, List.set_cons_zero, List.set_cons_succ, List.nil_append, List.cons_append, Nat.reduceAdd, Leaves.at])
    refine told_nil ?_
    intro vs W9 hW9 hok hap
    clear hap
    dsimp only
    have HB9 := hid (HB8.out.trans (since_below hW9 HB8.out.size))
    clear hok hW9
    go_wp2_with fail
    go_ret
    exact ⟨rfl, HB9.out⟩

theorem fits {H : Type} : ∀ ds : List (DataW H), ds.length = Try.f12.params.toList.length → Rows.flowOwnerSpec.fn H ds = { results := [.lit (.bool true)], args := ds } := by
  intro ds h
  rw [Try.params12] at h
  match ds, h with
  | [e0, e1, e2], _ => rfl

set_option maxRecDepth 100000 in
theorem lifted (os : Os) (started : os.Started) (H : Type) (enc : TypeId × Value → H) :
    ReturnsInHanded {} Try.checked os 12 .any (Rows.flowOwnerSpec.pre6 enc Try.prog Try.f12 Rows.flowOwnerRow.domain false) (Rows.flowOwnerSpec.post enc Try.prog Try.f12 false true false false) := by
  refine returnsInHanded_of_change_sized (C := Try.checked) own started (by kernel_rfl) Try.func12
    (ChangeSpec.witness6 (enc := enc) (C := Try.checked) false ⟨#[], #[.agg #[.int .i64 0, .slice none 0 0, .int .i64 0, .slice none 0 0], .int .u64 0, .int .i64 0], []⟩ 8 (by kernel_rfl) (by kernel_rfl) (by kernel_rfl) (by kernel_rfl)) ?_
  intro W base args ds gs before hval0 hW hcnd hsz0 _
  have hval : ∀ (j : Nat) t v, Try.f12.params[j]? = some t → args[j]? = some v → Value.okWide Try.prog W .any base t v := hval0
  have hsz : (DataW.weightsEach Try.prog (Try.f12.params.toList ++ []) (ds ++ gs)).all (· ≤ reachBytes) = true := hsz0
  rw [Try.params12] at hsz
  have hpost : ∀ W', Below W.heap.size W W' → Rows.flowOwnerSpec.post enc Try.prog Try.f12 false true false false W args (.bool true) W' := fun W' hb =>
    law_post rfl rfl Try.underlying4 laidOut (by kernel_rfl) fits hW hb
  obtain ⟨p, q, hA0, hV, rfl, hfz, hnd⟩ := hW
  have hA : DataW.TrodAll enc Try.prog W 0 (fun _ => true) true Try.f12.params.toList args.toList ds p := hA0
  rw [Try.params12] at hA hval
  obtain ⟨rfl, rfl⟩ := trodVars_none hV
  obtain ⟨v0, vs0, dd0, ds0, p0, q0, hargs, rfl, rfl, h0, hr0⟩ := trodAll_cons hA
  obtain ⟨v1, vs1, dd1, ds1, p1, q1, rfl, rfl, rfl, h1, hr1⟩ := trodAll_cons hr0
  obtain ⟨v2, vs2, dd2, ds2, p2, q2, rfl, rfl, rfl, h2, hr2⟩ := trodAll_cons hr1
  obtain ⟨rfl, rfl, rfl⟩ := trodAll_nil hr2
  obtain rfl : args = #[v0, v1, v2] := by cases args; simp_all
  have fit0 : Fits 43 dd0 := Fits.of_all hsz (j := 0) rfl rfl
  obtain ⟨d0, A0, n0, c0, l0, e0, E0, m0, k0, r0, rfl, T0, U0, F0, B0⟩ := open_who (hval 0 43 v0 rfl rfl) h0
  obtain ⟨a1, rfl, rfl, rfl, w1⟩ := open_int Try.underlying24 (hval 1 24 v1 rfl rfl) h1
  obtain ⟨a2, rfl, rfl, rfl, w2⟩ := open_int Try.underlying3 (hval 2 3 v2 rfl rfl) h2
  refine (walk d0 A0 n0 c0 l0 e0 E0 m0 k0 r0 a1 a2 W T0 U0 (by simpa [Lit.wf, IntKind.min, IntKind.max, IntKind.signed, IntKind.bits] using w1) (by simpa [Lit.wf, IntKind.min, IntKind.max, IntKind.signed, IntKind.bits] using w2) (F0 fit0).1 (F0 fit0).2).mono fun e W' ⟨he, hg⟩ => ?_
  subst he
  exact ⟨_, rfl, hpost W' hg⟩

theorem closed : joinedFacts Try.prog 12 Try.f12 Rows.flowOwnerSpec Rows.flowOwnerRow = true := by
  unfold joinedFacts
  rw [enters, finals, made]
  kernel_rfl

theorem over : Rows.flowOwnerRow.holds Try.pinned (OpenSpec.ofChange Rows.flowOwnerSpec) :=
  OpenClaim.holds_of_wide 12 Try.f12 rfl rfl rfl rfl rfl rfl rfl ⟨rfl, rfl, rfl, rfl, rfl⟩ rfl rfl rfl rfl rfl (by kernel_rfl) Try.func12 closed
    (of_decide_eq_true (by kernel_rfl)) (by unfold Func.isWrapper; rw [if_neg (by decide +kernel)]; exact ⟨rfl, rfl⟩)
    (fun os started H enc _ => lifted os started H enc)

theorem proved : Rows.FlowOwnerSaid := over
end Go.Proofs.Ytndohmimcbmhdaa.lawFlowOwner
