/- flow's checks and the document's. -/
import Derived.Test.YtndohmimcbmhdaaFa
set_option linter.unusedVariables false
set_option linter.unusedSimpArgs false
namespace Go.Proofs.Ytndohmimcbmhdaa
open Go.RowKit Go.Sort

theorem Blk.cells4 {w : World} {g : Nat} {t : TypeId} {a b c d : Value} (h : Blk w g t #[a, b, c, d]) : w.cell? ⟨g, 0, none⟩ = some a ∧ w.cell? ⟨g, 1, none⟩ = some b ∧ w.cell? ⟨g, 2, none⟩ = some c ∧ w.cell? ⟨g, 3, none⟩ = some d := ⟨(Blk.cell h 0).trans rfl, (Blk.cell h 1).trans rfl, (Blk.cell h 2).trans rfl, (Blk.cell h 3).trans rfl⟩
def readsB (d : Int) (l : List (Int × Int)) (d' : Int) (l' : List (Int × Int)) : Bool := leqB d' l' (turnF 0 5 d d) (raiseL d l)
def writesB (d : Int) (l : List (Int × Int)) (d' : Int) (l' : List (Int × Int)) : Bool := readsB d l d' l' && leqB d l d' l'
def whoB (d : Int) (l : List (Int × Int)) (e : Int) (r : List (Int × Int)) : Bool := rightB d l && pureB e r
def makesB (d : Int) (l : List (Int × Int)) (e : Int) (r : List (Int × Int)) (d' : Int) (l' : List (Int × Int)) : Bool := pureB d' l' && (leqB d l d' l' && leqB d' l' e r)
def taintsB (d : Int) (l : List (Int × Int)) (e : Int) (r : List (Int × Int)) (d' : Int) (l' : List (Int × Int)) : Bool := rightB d' l' && (leqB d l d' l' && leqB d' l' e r)
def spawnsB (d : Int) (l : List (Int × Int)) (e : Int) (r : List (Int × Int)) (d' : Int) (l' : List (Int × Int)) (e' : Int) (r' : List (Int × Int)) : Bool := whoB d' l' e' r' && (leqB d l d' l' && (leqB d' l' e' r' && leqB e' r' e r))

set_option maxHeartbeats 4000000 in
set_option maxRecDepth 100000 in
theorem f54 (w : World) (d0 : Int) (A0 : Option Addr) (n0 c0 : Nat) (l0 : List (Int × Int)) (e0 : Int) (E0 : Option Addr) (m0 k0 : Nat) (r0 : List (Int × Int)) (d1 : Int) (A1 : Option Addr) (n1 c1 : Nat) (l1 : List (Int × Int)) (t0 : CatsAt w w.heap.size A0 n0 c0 l0) (z0 : n0 ≤ 67108864) (u0 : CatsAt w w.heap.size E0 m0 k0 r0) (y0 : m0 ≤ 67108864) (t1 : CatsAt w w.heap.size A1 n1 c1 l1) (z1 : n1 ≤ 67108864) :
    Calls Try.prog 54 #[.agg #[.int .i64 d0, .slice A0 n0 c0, .int .i64 e0, .slice E0 m0 k0], .agg #[.int .i64 d1, .slice A1 n1 c1]] w fun e w' => e = .returned (.bool (readsB d0 l0 d1 l1)) ∧ Below w.heap.size w w' := by
  have mixed : Try.prog.follows .mixedOrders = true := by kernel_rfl
  obtain ⟨q0, q1, q2⟩ := two_blk w #[.int .i64 d0, .slice A0 n0 c0, .int .i64 e0, .slice E0 m0 k0] #[.int .i64 d1, .slice A1 n1 c1] 43 26
  have HB := hid q0
  have HP0 := hid q1
  have HP1 := hid q2
  have H0 := hid ((t0.below q0).more q0.size)
  have G0 := hid ((u0.below q0).more q0.size)
  have H1 := hid ((t1.below q0).more q0.size)
  have HE : Hid ((readsB d0 l0 d1 l1) = (risesP [(d1, l1), (turnF 0 5 d0 d0, raiseL d0 l0)])) := by show _ = _; unfold readsB; simp [risesP]
  clear t0 u0 t1 q0 q1 q2
  go_enter Try.func54, Try.ntmps54
  go_wp2_with fail
  generalize (w.alloc (.cells #[.int .i64 d0, .slice A0 n0 c0, .int .i64 e0, .slice E0 m0 k0] 43)).alloc (.cells #[.int .i64 d1, .slice A1 n1 c1] 26) = wa at *
  have HF : Hid (∀ W, But nil_ wa W → (W.cell? ⟨w.heap.size, 0, none⟩ = some (.int .i64 d0) ∧ W.cell? ⟨w.heap.size, 1, none⟩ = some (.slice A0 n0 c0) ∧ W.cell? ⟨w.heap.size, 2, none⟩ = some (.int .i64 e0) ∧ W.cell? ⟨w.heap.size, 3, none⟩ = some (.slice E0 m0 k0)) ∧ (W.cell? ⟨w.heap.size + 1, 0, none⟩ = some (.int .i64 d1) ∧ W.cell? ⟨w.heap.size + 1, 1, none⟩ = some (.slice A1 n1 c1))) := fun W hW => ⟨(hW.blk HP0.out (fun h => h)).cells4, (hW.blk HP1.out (fun h => h)).cells2⟩
  refine wp_region_told 7 nil_ mixed (by kernel_rfl) ?_
  simp only [List.take_succ_cons, List.take_zero, List.drop_succ_cons, List.drop_zero]
  repeat (refine told_val (v := ?_) (fun _ => rfl) (fun vs W hW => ?_) ?_; rotate_left; (focus (have hf := HF.out W hW; clear hW; go_simp; exact loose_val)); simp only [Act.put, List.setIfInBounds_toArray, List.set_cons_zero, List.set_cons_succ, List.nil_append, List.cons_append, Nat.reduceAdd, Leaves.at])
  refine told_rel (LabR (turnF 0 5 d0 d0) (raiseL d0 l0)) LabR.stable (fun _ => rfl) (fun vs W hW hd => ?_) ?_
  · clear hd
    go_simp
    exact loose_callR (raise46_l W d0 A0 n0 c0 l0 (H0.out.since_ hW) (by omega))
  simp only [Act.put, List.setIfInBounds_toArray, List.set_cons_zero, List.set_cons_succ, List.nil_append, List.cons_append, Nat.reduceAdd, Leaves.at]
  refine told_rel (LabsR [(d1, l1), (turnF 0 5 d0 d0, raiseL d0 l0)]) LabsR.stable (fun _ => rfl) (fun vs W hW hd => ?_) ?_
  · obtain ⟨P3, m3', k3', e3', hT3⟩ := hd ⟨3, .data⟩ (by simp) rfl _ rfl (fun h => by cases h)
    clear hd
    have hf := HF.out W hW
    have hmem := hid (List.forall_mem_cons.2 ⟨H1.out.since_ hW, List.forall_mem_cons.2 ⟨hT3, fun _ h => nomatch h⟩⟩ : ∀ l ∈ [(⟨d1, A1, n1, c1, l1⟩ : LabV), (⟨turnF 0 5 d0 d0, P3, m3', k3', raiseL d0 l0⟩ : LabV)], l.at_ W)
    clear hW
    go_simp
    exact loose_labs _ hmem.out
  simp only [Act.put, List.setIfInBounds_toArray, List.set_cons_zero, List.set_cons_succ, List.nil_append, List.cons_append, Nat.reduceAdd, Leaves.at]
  refine told_val' (v := .bool (risesP [(d1, l1), (turnF 0 5 d0 d0, raiseL d0 l0)])) (fun _ => rfl) (fun vs W hW hd => ?_) ?_
  · have hl := hd ⟨4, .data⟩ (by simp) rfl _ rfl (fun h => by cases h)
    have hr := hid (rises_R hl (by simp) (by simp))
    clear hd hl
    go_simp
    exact loose_call hr.out
  simp only [Act.put, List.setIfInBounds_toArray, List.set_cons_zero, List.set_cons_succ, List.nil_append, List.cons_append, Nat.reduceAdd, Leaves.at]
  repeat (refine told_val (v := ?_) (fun _ => rfl) (fun vs W hW => ?_) ?_; rotate_left; (focus (have hf := HF.out W hW; clear hW; go_simp; exact loose_val)); simp only [Act.put, List.setIfInBounds_toArray, List.set_cons_zero, List.set_cons_succ, List.nil_append, List.cons_append, Nat.reduceAdd, Leaves.at])
  refine told_nil ?_
  intro vs W hW hok hap
  clear hap
  dsimp only
  have HB2 := hid (HB.out.trans (since_below hW HB.out.size))
  clear hok hW
  go_wp2_with fail
  go_ret
  exact ⟨by rw [HE.out]; rfl, HB2.out⟩

set_option maxHeartbeats 4000000 in
set_option maxRecDepth 100000 in
theorem f55 (w : World) (d0 : Int) (A0 : Option Addr) (n0 c0 : Nat) (l0 : List (Int × Int)) (d1 : Int) (A1 : Option Addr) (n1 c1 : Nat) (l1 : List (Int × Int)) (t0 : CatsAt w w.heap.size A0 n0 c0 l0) (z0 : n0 ≤ 67108864) (t1 : CatsAt w w.heap.size A1 n1 c1 l1) (z1 : n1 ≤ 67108864) :
    Calls Try.prog 55 #[.agg #[.int .i64 d0, .slice A0 n0 c0], .agg #[.int .i64 d1, .slice A1 n1 c1]] w fun e w' => e = .returned (.bool (readsB d0 l0 d1 l1)) ∧ Below w.heap.size w w' := by
  have mixed : Try.prog.follows .mixedOrders = true := by kernel_rfl
  obtain ⟨q0, q1, q2⟩ := two_blk w #[.int .i64 d0, .slice A0 n0 c0] #[.int .i64 d1, .slice A1 n1 c1] 26 26
  have HB := hid q0
  have HP0 := hid q1
  have HP1 := hid q2
  have H0 := hid ((t0.below q0).more q0.size)
  have H1 := hid ((t1.below q0).more q0.size)
  clear t0 t1 q0 q1 q2
  go_enter Try.func55, Try.ntmps55
  go_wp2_with fail
  generalize (w.alloc (.cells #[.int .i64 d0, .slice A0 n0 c0] 26)).alloc (.cells #[.int .i64 d1, .slice A1 n1 c1] 26) = wa at *
  have HF : Hid (∀ W, But nil_ wa W → (W.cell? ⟨w.heap.size, 0, none⟩ = some (.int .i64 d0) ∧ W.cell? ⟨w.heap.size, 1, none⟩ = some (.slice A0 n0 c0)) ∧ (W.cell? ⟨w.heap.size + 1, 0, none⟩ = some (.int .i64 d1) ∧ W.cell? ⟨w.heap.size + 1, 1, none⟩ = some (.slice A1 n1 c1))) := fun W hW => ⟨(hW.blk HP0.out (fun h => h)).cells2, (hW.blk HP1.out (fun h => h)).cells2⟩
  refine wp_region_told 5 nil_ mixed (by kernel_rfl) ?_
  simp only [List.take_succ_cons, List.take_zero, List.drop_succ_cons, List.drop_zero]
  repeat (refine told_val (v := ?_) (fun _ => rfl) (fun vs W hW => ?_) ?_; rotate_left; (focus (have hf := HF.out W hW; clear hW; go_simp; exact loose_val)); simp only [Act.put, List.setIfInBounds_toArray, List.set_cons_zero, List.set_cons_succ, List.nil_append, List.cons_append, Nat.reduceAdd, Leaves.at])
  refine told_rel (LabR (turnF 0 5 d0 d0) (raiseL d0 l0)) LabR.stable (fun _ => rfl) (fun vs W hW hd => ?_) ?_
  · clear hd
    go_simp
    exact loose_callR (raise112 W d0 A0 n0 c0 l0 (H0.out.since_ hW) (by omega))
  simp only [Act.put, List.setIfInBounds_toArray, List.set_cons_zero, List.set_cons_succ, List.nil_append, List.cons_append, Nat.reduceAdd, Leaves.at]
  refine told_val' (v := .bool (readsB d0 l0 d1 l1)) (fun _ => rfl) (fun vs W hW hd => ?_) ?_
  · obtain ⟨P2, m2, k2, e2, hT2⟩ := hd ⟨2, .data⟩ (by simp) rfl _ rfl (fun h => by cases h)
    clear hd
    go_simp
    exact loose_call (leq41_b W _ _ A1 P2 n1 c1 m2 k2 l1 _ (H1.out.since_ hW) hT2 (by have := hT2.len; have := raiseL_len d0 l0; have := H0.out.len; omega))
  simp only [Act.put, List.setIfInBounds_toArray, List.set_cons_zero, List.set_cons_succ, List.nil_append, List.cons_append, Nat.reduceAdd, Leaves.at]
  repeat (refine told_val (v := ?_) (fun _ => rfl) (fun vs W hW => ?_) ?_; rotate_left; (focus (have hf := HF.out W hW; clear hW; go_simp; exact loose_val)); simp only [Act.put, List.setIfInBounds_toArray, List.set_cons_zero, List.set_cons_succ, List.nil_append, List.cons_append, Nat.reduceAdd, Leaves.at])
  refine told_nil ?_
  intro vs W hW hok hap
  clear hap
  dsimp only
  have HB2 := hid (HB.out.trans (since_below hW HB.out.size))
  clear hok hW
  go_wp2_with fail
  go_ret
  exact ⟨rfl, HB2.out⟩

set_option maxHeartbeats 4000000 in
set_option maxRecDepth 100000 in
theorem f56 (w : World) (d0 : Int) (A0 : Option Addr) (n0 c0 : Nat) (l0 : List (Int × Int)) (e0 : Int) (E0 : Option Addr) (m0 k0 : Nat) (r0 : List (Int × Int)) (d1 : Int) (A1 : Option Addr) (n1 c1 : Nat) (l1 : List (Int × Int)) (t0 : CatsAt w w.heap.size A0 n0 c0 l0) (z0 : n0 ≤ 67108864) (u0 : CatsAt w w.heap.size E0 m0 k0 r0) (y0 : m0 ≤ 67108864) (t1 : CatsAt w w.heap.size A1 n1 c1 l1) (z1 : n1 ≤ 67108864) :
    Calls Try.prog 56 #[.agg #[.int .i64 d0, .slice A0 n0 c0, .int .i64 e0, .slice E0 m0 k0], .agg #[.int .i64 d1, .slice A1 n1 c1]] w fun e w' => e = .returned (.bool (writesB d0 l0 d1 l1)) ∧ Below w.heap.size w w' := by
  have mixed : Try.prog.follows .mixedOrders = true := by kernel_rfl
  obtain ⟨q0, q1, q2⟩ := two_blk w #[.int .i64 d0, .slice A0 n0 c0, .int .i64 e0, .slice E0 m0 k0] #[.int .i64 d1, .slice A1 n1 c1] 43 26
  have HB := hid q0
  have HP0 := hid q1
  have HP1 := hid q2
  have H0 := hid ((t0.below q0).more q0.size)
  have G0 := hid ((u0.below q0).more q0.size)
  have H1 := hid ((t1.below q0).more q0.size)
  have HE : Hid ((writesB d0 l0 d1 l1) = (risesP [(d0, l0), (d1, l1), (turnF 0 5 d0 d0, raiseL d0 l0)])) := by show _ = _; unfold writesB readsB; simp [risesP, Bool.and_comm]
  clear t0 u0 t1 q0 q1 q2
  go_enter Try.func56, Try.ntmps56
  go_wp2_with fail
  generalize (w.alloc (.cells #[.int .i64 d0, .slice A0 n0 c0, .int .i64 e0, .slice E0 m0 k0] 43)).alloc (.cells #[.int .i64 d1, .slice A1 n1 c1] 26) = wa at *
  have HF : Hid (∀ W, But nil_ wa W → (W.cell? ⟨w.heap.size, 0, none⟩ = some (.int .i64 d0) ∧ W.cell? ⟨w.heap.size, 1, none⟩ = some (.slice A0 n0 c0) ∧ W.cell? ⟨w.heap.size, 2, none⟩ = some (.int .i64 e0) ∧ W.cell? ⟨w.heap.size, 3, none⟩ = some (.slice E0 m0 k0)) ∧ (W.cell? ⟨w.heap.size + 1, 0, none⟩ = some (.int .i64 d1) ∧ W.cell? ⟨w.heap.size + 1, 1, none⟩ = some (.slice A1 n1 c1))) := fun W hW => ⟨(hW.blk HP0.out (fun h => h)).cells4, (hW.blk HP1.out (fun h => h)).cells2⟩
  refine wp_region_told 9 nil_ mixed (by kernel_rfl) ?_
  simp only [List.take_succ_cons, List.take_zero, List.drop_succ_cons, List.drop_zero]
  repeat (refine told_val (v := ?_) (fun _ => rfl) (fun vs W hW => ?_) ?_; rotate_left; (focus (have hf := HF.out W hW; clear hW; go_simp; exact loose_val)); simp only [Act.put, List.setIfInBounds_toArray, List.set_cons_zero, List.set_cons_succ, List.nil_append, List.cons_append, Nat.reduceAdd, Leaves.at])
  refine told_rel (LabR (turnF 0 5 d0 d0) (raiseL d0 l0)) LabR.stable (fun _ => rfl) (fun vs W hW hd => ?_) ?_
  · clear hd
    go_simp
    exact loose_callR (raise46_l W d0 A0 n0 c0 l0 (H0.out.since_ hW) (by omega))
  simp only [Act.put, List.setIfInBounds_toArray, List.set_cons_zero, List.set_cons_succ, List.nil_append, List.cons_append, Nat.reduceAdd, Leaves.at]
  refine told_rel (LabsR [(d0, l0), (d1, l1), (turnF 0 5 d0 d0, raiseL d0 l0)]) LabsR.stable (fun _ => rfl) (fun vs W hW hd => ?_) ?_
  · obtain ⟨P5, m5', k5', e5', hT5⟩ := hd ⟨5, .data⟩ (by simp) rfl _ rfl (fun h => by cases h)
    clear hd
    have hf := HF.out W hW
    have hmem := hid (List.forall_mem_cons.2 ⟨H0.out.since_ hW, List.forall_mem_cons.2 ⟨H1.out.since_ hW, List.forall_mem_cons.2 ⟨hT5, fun _ h => nomatch h⟩⟩⟩ : ∀ l ∈ [(⟨d0, A0, n0, c0, l0⟩ : LabV), (⟨d1, A1, n1, c1, l1⟩ : LabV), (⟨turnF 0 5 d0 d0, P5, m5', k5', raiseL d0 l0⟩ : LabV)], l.at_ W)
    clear hW
    go_simp
    exact loose_labs _ hmem.out
  simp only [Act.put, List.setIfInBounds_toArray, List.set_cons_zero, List.set_cons_succ, List.nil_append, List.cons_append, Nat.reduceAdd, Leaves.at]
  refine told_val' (v := .bool (risesP [(d0, l0), (d1, l1), (turnF 0 5 d0 d0, raiseL d0 l0)])) (fun _ => rfl) (fun vs W hW hd => ?_) ?_
  · have hl := hd ⟨6, .data⟩ (by simp) rfl _ rfl (fun h => by cases h)
    have hr := hid (rises_R hl (by simp) (by simp))
    clear hd hl
    go_simp
    exact loose_call hr.out
  simp only [Act.put, List.setIfInBounds_toArray, List.set_cons_zero, List.set_cons_succ, List.nil_append, List.cons_append, Nat.reduceAdd, Leaves.at]
  repeat (refine told_val (v := ?_) (fun _ => rfl) (fun vs W hW => ?_) ?_; rotate_left; (focus (have hf := HF.out W hW; clear hW; go_simp; exact loose_val)); simp only [Act.put, List.setIfInBounds_toArray, List.set_cons_zero, List.set_cons_succ, List.nil_append, List.cons_append, Nat.reduceAdd, Leaves.at])
  refine told_nil ?_
  intro vs W hW hok hap
  clear hap
  dsimp only
  have HB2 := hid (HB.out.trans (since_below hW HB.out.size))
  clear hok hW
  go_wp2_with fail
  go_ret
  exact ⟨by rw [HE.out]; rfl, HB2.out⟩

set_option maxHeartbeats 4000000 in
set_option maxRecDepth 100000 in
theorem f57 (w : World) (d0 : Int) (A0 : Option Addr) (n0 c0 : Nat) (l0 : List (Int × Int)) (d1 : Int) (A1 : Option Addr) (n1 c1 : Nat) (l1 : List (Int × Int)) (t0 : CatsAt w w.heap.size A0 n0 c0 l0) (z0 : n0 ≤ 67108864) (t1 : CatsAt w w.heap.size A1 n1 c1 l1) (z1 : n1 ≤ 67108864) :
    Calls Try.prog 57 #[.agg #[.int .i64 d0, .slice A0 n0 c0], .agg #[.int .i64 d1, .slice A1 n1 c1]] w fun e w' => e = .returned (.bool (writesB d0 l0 d1 l1)) ∧ Below w.heap.size w w' := by
  have mixed : Try.prog.follows .mixedOrders = true := by kernel_rfl
  obtain ⟨q0, q1, q2⟩ := two_blk w #[.int .i64 d0, .slice A0 n0 c0] #[.int .i64 d1, .slice A1 n1 c1] 26 26
  have HB := hid q0
  have HP0 := hid q1
  have HP1 := hid q2
  have H0 := hid ((t0.below q0).more q0.size)
  have H1 := hid ((t1.below q0).more q0.size)
  have HE : Hid ((writesB d0 l0 d1 l1) = (readsB d0 l0 d1 l1 && leqB d0 l0 d1 l1)) := by show _ = _; rfl
  clear t0 t1 q0 q1 q2
  go_enter Try.func57, Try.ntmps57
  go_wp2_with (refine wp_list_told 9 9 nil_ rfl (by decide) ?_)
  generalize (w.alloc (.cells #[.int .i64 d0, .slice A0 n0 c0] 26)).alloc (.cells #[.int .i64 d1, .slice A1 n1 c1] 26) = wa at *
  have HF : Hid (∀ W, But nil_ wa W → (W.cell? ⟨w.heap.size, 0, none⟩ = some (.int .i64 d0) ∧ W.cell? ⟨w.heap.size, 1, none⟩ = some (.slice A0 n0 c0)) ∧ (W.cell? ⟨w.heap.size + 1, 0, none⟩ = some (.int .i64 d1) ∧ W.cell? ⟨w.heap.size + 1, 1, none⟩ = some (.slice A1 n1 c1))) := fun W hW => ⟨(hW.blk HP0.out (fun h => h)).cells2, (hW.blk HP1.out (fun h => h)).cells2⟩
  simp only [List.take_succ_cons, List.take_zero, List.drop_succ_cons, List.drop_zero]
  have HA := hid (fun W (hW : But nil_ wa W) => f55 W d0 A0 n0 c0 l0 d1 A1 n1 c1 l1 (H0.out.since_ hW) z0 (H1.out.since_ hW) z1)
  have HL := hid (fun W (hW : But nil_ wa W) => leq41_b W d0 d1 A0 A1 n0 c0 n1 c1 l0 l1 (H0.out.since_ hW) (H1.out.since_ hW) (by omega))
  generalize readsB d0 l0 d1 l1 = q at *
  generalize leqB d0 l0 d1 l1 = p at *
  repeat (refine told_val (v := ?_) (fun _ => rfl) (fun vs W hW => ?_) ?_; rotate_left; (focus (have hf := HF.out W hW; clear hW; go_simp; exact loose_val)); simp only [Act.put, List.setIfInBounds_toArray, List.set_cons_zero, List.set_cons_succ, List.nil_append, List.cons_append, Nat.reduceAdd, Leaves.at])
  refine told_val (v := .bool q) (fun _ => rfl) (fun vs W hW => ?_) ?_
  · go_simp
    exact loose_call (HA.out W hW)
  simp only [Act.put, List.setIfInBounds_toArray, List.set_cons_zero, List.set_cons_succ, List.nil_append, List.cons_append, Nat.reduceAdd, Leaves.at]
  repeat (refine told_val (v := ?_) (fun _ => rfl) (fun vs W hW => ?_) ?_; rotate_left; (focus (have hf := HF.out W hW; clear hW; go_simp; exact loose_val)); simp only [Act.put, List.setIfInBounds_toArray, List.set_cons_zero, List.set_cons_succ, List.nil_append, List.cons_append, Nat.reduceAdd, Leaves.at])
  repeat (refine told_maybe (b := q) (v := ?_) (fun _ => Bool.casesOn q rfl rfl) (fun hb vs W hW => ?_) ?_; rotate_left; (focus (have hf := HF.out W hW; clear hW; (try simp only [hb, cond_true, cond_false]); go_simp; exact loose_val)); simp only [Act.put, List.setIfInBounds_toArray, List.set_cons_zero, List.set_cons_succ, List.nil_append, List.cons_append, Nat.reduceAdd, Leaves.at])
  refine told_maybe (b := q) (v := .bool p) (fun _ => Bool.casesOn q rfl rfl) (fun hb vs W hW => ?_) ?_
  · try simp only [hb, cond_true, cond_false]
    go_simp
    exact loose_call (HL.out W hW)
  simp only [Act.put, List.setIfInBounds_toArray, List.set_cons_zero, List.set_cons_succ, List.nil_append, List.cons_append, Nat.reduceAdd, Leaves.at]
  refine told_val (v := .bool (q && p)) (fun _ => rfl) (fun vs W hW => ?_) ?_
  · cases q <;> cases p <;> (go_simp; exact loose_val)
  simp only [Act.put, List.setIfInBounds_toArray, List.set_cons_zero, List.set_cons_succ, List.nil_append, List.cons_append, Nat.reduceAdd, Leaves.at]
  repeat (refine told_val (v := ?_) (fun _ => rfl) (fun vs W hW => ?_) ?_; rotate_left; (focus (have hf := HF.out W hW; clear hW; go_simp; exact loose_val)); simp only [Act.put, List.setIfInBounds_toArray, List.set_cons_zero, List.set_cons_succ, List.nil_append, List.cons_append, Nat.reduceAdd, Leaves.at])
  refine told_nil ?_
  intro vs W hW hok hap
  clear hap
  dsimp only
  have HB2 := hid (HB.out.trans (since_below hW HB.out.size))
  clear hok hW
  go_wp2_with fail
  go_ret
  exact ⟨by rw [HE.out]; rfl, HB2.out⟩

set_option maxHeartbeats 4000000 in
set_option maxRecDepth 100000 in
theorem f115 (w : World) (d0 : Int) (A0 : Option Addr) (n0 c0 : Nat) (l0 : List (Int × Int)) (e0 : Int) (E0 : Option Addr) (m0 k0 : Nat) (r0 : List (Int × Int)) (t0 : CatsAt w w.heap.size A0 n0 c0 l0) (z0 : n0 ≤ 67108864) (u0 : CatsAt w w.heap.size E0 m0 k0 r0) (y0 : m0 ≤ 67108864) :
    Calls Try.prog 115 #[.agg #[.int .i64 d0, .slice A0 n0 c0, .int .i64 e0, .slice E0 m0 k0]] w fun e w' => e = .returned (.bool (whoB d0 l0 e0 r0)) ∧ Below w.heap.size w w' := by
  have mixed : Try.prog.follows .mixedOrders = true := by kernel_rfl
  have HB : Hid (Below w.heap.size w (w.alloc (.cells #[.int .i64 d0, .slice A0 n0 c0, .int .i64 e0, .slice E0 m0 k0] 43))) := (Below.refl _ w).alloc (Nat.le_refl _) _
  have HP0 : Hid (Blk (w.alloc (.cells #[.int .i64 d0, .slice A0 n0 c0, .int .i64 e0, .slice E0 m0 k0] 43)) w.heap.size 43 #[.int .i64 d0, .slice A0 n0 c0, .int .i64 e0, .slice E0 m0 k0]) := Blk.new w _ _
  have H0 := hid ((t0.below HB.out).more HB.out.size)
  have G0 := hid ((u0.below HB.out).more HB.out.size)
  have HE : Hid ((whoB d0 l0 e0 r0) = (rightB d0 l0 && pureB e0 r0)) := by show _ = _; rfl
  clear t0 u0
  go_enter Try.func115, Try.ntmps115
  go_wp2_with (refine wp_list_told 9 9 nil_ rfl (by decide) ?_)
  generalize w.alloc (.cells #[.int .i64 d0, .slice A0 n0 c0, .int .i64 e0, .slice E0 m0 k0] 43) = wa at *
  have HF : Hid (∀ W, But nil_ wa W → (W.cell? ⟨w.heap.size, 0, none⟩ = some (.int .i64 d0) ∧ W.cell? ⟨w.heap.size, 1, none⟩ = some (.slice A0 n0 c0) ∧ W.cell? ⟨w.heap.size, 2, none⟩ = some (.int .i64 e0) ∧ W.cell? ⟨w.heap.size, 3, none⟩ = some (.slice E0 m0 k0))) := fun W hW => (hW.blk HP0.out (fun h => h)).cells4
  simp only [List.take_succ_cons, List.take_zero, List.drop_succ_cons, List.drop_zero]
  have HA := hid (fun W (hW : But nil_ wa W) => right51 W d0 A0 n0 c0 l0 (H0.out.since_ hW))
  have HL := hid (fun W (hW : But nil_ wa W) => pure113 W e0 E0 m0 k0 r0 (G0.out.since_ hW))
  generalize rightB d0 l0 = q at *
  generalize pureB e0 r0 = p at *
  repeat (refine told_val (v := ?_) (fun _ => rfl) (fun vs W hW => ?_) ?_; rotate_left; (focus (have hf := HF.out W hW; clear hW; go_simp; exact loose_val)); simp only [Act.put, List.setIfInBounds_toArray, List.set_cons_zero, List.set_cons_succ, List.nil_append, List.cons_append, Nat.reduceAdd, Leaves.at])
  refine told_val (v := .bool q) (fun _ => rfl) (fun vs W hW => ?_) ?_
  · go_simp
    exact loose_call (HA.out W hW)
  simp only [Act.put, List.setIfInBounds_toArray, List.set_cons_zero, List.set_cons_succ, List.nil_append, List.cons_append, Nat.reduceAdd, Leaves.at]
  repeat (refine told_val (v := ?_) (fun _ => rfl) (fun vs W hW => ?_) ?_; rotate_left; (focus (have hf := HF.out W hW; clear hW; go_simp; exact loose_val)); simp only [Act.put, List.setIfInBounds_toArray, List.set_cons_zero, List.set_cons_succ, List.nil_append, List.cons_append, Nat.reduceAdd, Leaves.at])
  repeat (refine told_maybe (b := q) (v := ?_) (fun _ => Bool.casesOn q rfl rfl) (fun hb vs W hW => ?_) ?_; rotate_left; (focus (have hf := HF.out W hW; clear hW; (try simp only [hb, cond_true, cond_false]); go_simp; exact loose_val)); simp only [Act.put, List.setIfInBounds_toArray, List.set_cons_zero, List.set_cons_succ, List.nil_append, List.cons_append, Nat.reduceAdd, Leaves.at])
  refine told_maybe (b := q) (v := .bool p) (fun _ => Bool.casesOn q rfl rfl) (fun hb vs W hW => ?_) ?_
  · try simp only [hb, cond_true, cond_false]
    go_simp
    exact loose_call (HL.out W hW)
  simp only [Act.put, List.setIfInBounds_toArray, List.set_cons_zero, List.set_cons_succ, List.nil_append, List.cons_append, Nat.reduceAdd, Leaves.at]
  refine told_val (v := .bool (q && p)) (fun _ => rfl) (fun vs W hW => ?_) ?_
  · cases q <;> cases p <;> (go_simp; exact loose_val)
  simp only [Act.put, List.setIfInBounds_toArray, List.set_cons_zero, List.set_cons_succ, List.nil_append, List.cons_append, Nat.reduceAdd, Leaves.at]
  repeat (refine told_val (v := ?_) (fun _ => rfl) (fun vs W hW => ?_) ?_; rotate_left; (focus (have hf := HF.out W hW; clear hW; go_simp; exact loose_val)); simp only [Act.put, List.setIfInBounds_toArray, List.set_cons_zero, List.set_cons_succ, List.nil_append, List.cons_append, Nat.reduceAdd, Leaves.at])
  refine told_nil ?_
  intro vs W hW hok hap
  clear hap
  dsimp only
  have HB2 := hid (HB.out.trans (since_below hW HB.out.size))
  clear hok hW
  go_wp2_with fail
  go_ret
  exact ⟨by rw [HE.out]; rfl, HB2.out⟩

set_option maxHeartbeats 4000000 in
set_option maxRecDepth 100000 in
theorem f58 (w : World) (d0 : Int) (A0 : Option Addr) (n0 c0 : Nat) (l0 : List (Int × Int)) (e0 : Int) (E0 : Option Addr) (m0 k0 : Nat) (r0 : List (Int × Int)) (d1 : Int) (A1 : Option Addr) (n1 c1 : Nat) (l1 : List (Int × Int)) (t0 : CatsAt w w.heap.size A0 n0 c0 l0) (z0 : n0 ≤ 67108864) (u0 : CatsAt w w.heap.size E0 m0 k0 r0) (y0 : m0 ≤ 67108864) (t1 : CatsAt w w.heap.size A1 n1 c1 l1) (z1 : n1 ≤ 67108864) :
    Calls Try.prog 58 #[.agg #[.int .i64 d0, .slice A0 n0 c0, .int .i64 e0, .slice E0 m0 k0], .agg #[.int .i64 d1, .slice A1 n1 c1]] w fun e w' => e = .returned (.bool (makesB d0 l0 e0 r0 d1 l1)) ∧ Below w.heap.size w w' := by
  have mixed : Try.prog.follows .mixedOrders = true := by kernel_rfl
  obtain ⟨q0, q1, q2⟩ := two_blk w #[.int .i64 d0, .slice A0 n0 c0, .int .i64 e0, .slice E0 m0 k0] #[.int .i64 d1, .slice A1 n1 c1] 43 26
  have HB := hid q0
  have HP0 := hid q1
  have HP1 := hid q2
  have H0 := hid ((t0.below q0).more q0.size)
  have G0 := hid ((u0.below q0).more q0.size)
  have H1 := hid ((t1.below q0).more q0.size)
  have HE : Hid ((makesB d0 l0 e0 r0 d1 l1) = (pureB d1 l1 && risesP [(d0, l0), (d1, l1), (e0, r0)])) := by show _ = _; unfold makesB; simp [risesP]
  clear t0 u0 t1 q0 q1 q2
  go_enter Try.func58, Try.ntmps58
  go_wp2_with (refine wp_list_told 12 12 nil_ rfl (by decide) ?_)
  generalize (w.alloc (.cells #[.int .i64 d0, .slice A0 n0 c0, .int .i64 e0, .slice E0 m0 k0] 43)).alloc (.cells #[.int .i64 d1, .slice A1 n1 c1] 26) = wa at *
  have HF : Hid (∀ W, But nil_ wa W → (W.cell? ⟨w.heap.size, 0, none⟩ = some (.int .i64 d0) ∧ W.cell? ⟨w.heap.size, 1, none⟩ = some (.slice A0 n0 c0) ∧ W.cell? ⟨w.heap.size, 2, none⟩ = some (.int .i64 e0) ∧ W.cell? ⟨w.heap.size, 3, none⟩ = some (.slice E0 m0 k0)) ∧ (W.cell? ⟨w.heap.size + 1, 0, none⟩ = some (.int .i64 d1) ∧ W.cell? ⟨w.heap.size + 1, 1, none⟩ = some (.slice A1 n1 c1))) := fun W hW => ⟨(hW.blk HP0.out (fun h => h)).cells4, (hW.blk HP1.out (fun h => h)).cells2⟩
  simp only [List.take_succ_cons, List.take_zero, List.drop_succ_cons, List.drop_zero]
  have HPU := hid (fun W (hW : But nil_ wa W) => pure113 W d1 A1 n1 c1 l1 (H1.out.since_ hW))
  generalize pureB d1 l1 = q at *
  repeat (refine told_val (v := ?_) (fun _ => rfl) (fun vs W hW => ?_) ?_; rotate_left; (focus (have hf := HF.out W hW; clear hW; go_simp; exact loose_val)); simp only [Act.put, List.setIfInBounds_toArray, List.set_cons_zero, List.set_cons_succ, List.nil_append, List.cons_append, Nat.reduceAdd, Leaves.at])
  refine told_val (v := .bool q) (fun _ => rfl) (fun vs W hW => ?_) ?_
  · go_simp
    exact loose_call (HPU.out W hW)
  simp only [Act.put, List.setIfInBounds_toArray, List.set_cons_zero, List.set_cons_succ, List.nil_append, List.cons_append, Nat.reduceAdd, Leaves.at]
  repeat (refine told_val (v := ?_) (fun _ => rfl) (fun vs W hW => ?_) ?_; rotate_left; (focus (have hf := HF.out W hW; clear hW; go_simp; exact loose_val)); simp only [Act.put, List.setIfInBounds_toArray, List.set_cons_zero, List.set_cons_succ, List.nil_append, List.cons_append, Nat.reduceAdd, Leaves.at])
  cases q with
  | false =>
    repeat (first | (refine told_off (fun _ => rfl) ?_; simp only [Act.put, List.setIfInBounds_toArray, List.set_cons_zero, List.set_cons_succ, List.nil_append, List.cons_append, Nat.reduceAdd, Leaves.at]) | (refine told_val (v := ?_) (fun _ => rfl) (fun vs W hW => ?_) ?_; rotate_left; (focus (have hf := HF.out W hW; clear hW; go_simp; exact loose_val)); simp only [Act.put, List.setIfInBounds_toArray, List.set_cons_zero, List.set_cons_succ, List.nil_append, List.cons_append, Nat.reduceAdd, Leaves.at]))
    refine told_nil ?_
    intro vs W hW hok hap
    clear hap
    dsimp only
    have HB2 := hid (HB.out.trans (since_below hW HB.out.size))
    clear hok hW
    go_wp2_with fail
    go_ret
    exact ⟨by rw [HE.out]; rfl, HB2.out⟩
  | true =>
    repeat (refine told_val (v := ?_) (fun _ => rfl) (fun vs W hW => ?_) ?_; rotate_left; (focus (have hf := HF.out W hW; clear hW; go_simp; exact loose_val)); simp only [Act.put, List.setIfInBounds_toArray, List.set_cons_zero, List.set_cons_succ, List.nil_append, List.cons_append, Nat.reduceAdd, Leaves.at])
    refine told_rel (LabsR [(d0, l0), (d1, l1), (e0, r0)]) LabsR.stable (fun _ => rfl) (fun vs W hW hd => ?_) ?_
    · clear hd
      have hf := HF.out W hW
      have hmem := hid (List.forall_mem_cons.2 ⟨H0.out.since_ hW, List.forall_mem_cons.2 ⟨H1.out.since_ hW, List.forall_mem_cons.2 ⟨G0.out.since_ hW, fun _ h => nomatch h⟩⟩⟩ : ∀ l ∈ [(⟨d0, A0, n0, c0, l0⟩ : LabV), (⟨d1, A1, n1, c1, l1⟩ : LabV), (⟨e0, E0, m0, k0, r0⟩ : LabV)], l.at_ W)
      clear hW
      go_simp
      exact loose_labs _ hmem.out
    simp only [Act.put, List.setIfInBounds_toArray, List.set_cons_zero, List.set_cons_succ, List.nil_append, List.cons_append, Nat.reduceAdd, Leaves.at]
    refine told_val' (v := .bool (risesP [(d0, l0), (d1, l1), (e0, r0)])) (fun _ => rfl) (fun vs W hW hd => ?_) ?_
    · have hl := hd ⟨8, .data⟩ (by simp) rfl _ rfl (fun h => by cases h)
      have hr := hid (rises_R hl (by simp) (by simp))
      clear hd hl
      go_simp
      exact loose_call hr.out
    simp only [Act.put, List.setIfInBounds_toArray, List.set_cons_zero, List.set_cons_succ, List.nil_append, List.cons_append, Nat.reduceAdd, Leaves.at]
    repeat (refine told_val (v := ?_) (fun _ => rfl) (fun vs W hW => ?_) ?_; rotate_left; (focus (have hf := HF.out W hW; clear hW; go_simp; exact loose_val)); simp only [Act.put, List.setIfInBounds_toArray, List.set_cons_zero, List.set_cons_succ, List.nil_append, List.cons_append, Nat.reduceAdd, Leaves.at])
    refine told_nil ?_
    intro vs W hW hok hap
    clear hap
    dsimp only
    have HB2 := hid (HB.out.trans (since_below hW HB.out.size))
    clear hok hW
    go_wp2_with fail
    go_ret
    exact ⟨by rw [HE.out]; rfl, HB2.out⟩

set_option maxHeartbeats 4000000 in
set_option maxRecDepth 100000 in
theorem f59 (w : World) (d0 : Int) (A0 : Option Addr) (n0 c0 : Nat) (l0 : List (Int × Int)) (d1 : Int) (A1 : Option Addr) (n1 c1 : Nat) (l1 : List (Int × Int)) (d2 : Int) (A2 : Option Addr) (n2 c2 : Nat) (l2 : List (Int × Int)) (t0 : CatsAt w w.heap.size A0 n0 c0 l0) (z0 : n0 ≤ 67108864) (t1 : CatsAt w w.heap.size A1 n1 c1 l1) (z1 : n1 ≤ 67108864) (t2 : CatsAt w w.heap.size A2 n2 c2 l2) (z2 : n2 ≤ 67108864) :
    Calls Try.prog 59 #[.agg #[.int .i64 d0, .slice A0 n0 c0], .agg #[.int .i64 d1, .slice A1 n1 c1], .agg #[.int .i64 d2, .slice A2 n2 c2]] w fun e w' => e = .returned (.bool (makesB d0 l0 d1 l1 d2 l2)) ∧ Below w.heap.size w w' := by
  have mixed : Try.prog.follows .mixedOrders = true := by kernel_rfl
  obtain ⟨q0, q1, q2, q3⟩ := three_blk w #[.int .i64 d0, .slice A0 n0 c0] #[.int .i64 d1, .slice A1 n1 c1] #[.int .i64 d2, .slice A2 n2 c2] 26 26 26
  have HB := hid q0
  have HP0 := hid q1
  have HP1 := hid q2
  have HP2 := hid q3
  have H0 := hid ((t0.below q0).more q0.size)
  have H1 := hid ((t1.below q0).more q0.size)
  have H2 := hid ((t2.below q0).more q0.size)
  have HE : Hid ((makesB d0 l0 d1 l1 d2 l2) = (((rightB d2 l2 && pureD d2 l2) && leqB d0 l0 d2 l2) && leqB d2 l2 d1 l1)) := by show _ = _; unfold makesB; rw [← pure_both]; simp [Bool.and_assoc]
  clear t0 t1 t2 q0 q1 q2 q3
  go_enter Try.func59, Try.ntmps59
  go_wp2_with (refine wp_list_told 17 17 nil_ rfl (by decide) ?_)
  generalize ((w.alloc (.cells #[.int .i64 d0, .slice A0 n0 c0] 26)).alloc (.cells #[.int .i64 d1, .slice A1 n1 c1] 26)).alloc (.cells #[.int .i64 d2, .slice A2 n2 c2] 26) = wa at *
  have HF : Hid (∀ W, But nil_ wa W → (W.cell? ⟨w.heap.size, 0, none⟩ = some (.int .i64 d0) ∧ W.cell? ⟨w.heap.size, 1, none⟩ = some (.slice A0 n0 c0)) ∧ (W.cell? ⟨w.heap.size + 1, 0, none⟩ = some (.int .i64 d1) ∧ W.cell? ⟨w.heap.size + 1, 1, none⟩ = some (.slice A1 n1 c1)) ∧ (W.cell? ⟨w.heap.size + 1 + 1, 0, none⟩ = some (.int .i64 d2) ∧ W.cell? ⟨w.heap.size + 1 + 1, 1, none⟩ = some (.slice A2 n2 c2))) := fun W hW => ⟨(hW.blk HP0.out (fun h => h)).cells2, (hW.blk HP1.out (fun h => h)).cells2, (hW.blk HP2.out (fun h => h)).cells2⟩
  simp only [List.take_succ_cons, List.take_zero, List.drop_succ_cons, List.drop_zero]
  have HA := hid (fun W (hW : But nil_ wa W) => right52 W d2 A2 n2 c2 l2 (H2.out.since_ hW))
  have HU := hid (fun W (hW : But nil_ wa W) => pure114 W d2 A2 n2 c2 l2 (H2.out.since_ hW))
  have HL := hid (fun W (hW : But nil_ wa W) => leq41_b W d0 d2 A0 A2 n0 c0 n2 c2 l0 l2 (H0.out.since_ hW) (H2.out.since_ hW) (by omega))
  have HM := hid (fun W (hW : But nil_ wa W) => leq41_b W d2 d1 A2 A1 n2 c2 n1 c1 l2 l1 (H2.out.since_ hW) (H1.out.since_ hW) (by omega))
  generalize rightB d2 l2 = q1 at *
  generalize pureD d2 l2 = q2 at *
  generalize leqB d0 l0 d2 l2 = q3 at *
  generalize leqB d2 l2 d1 l1 = q4 at *
  repeat (refine told_val (v := ?_) (fun _ => rfl) (fun vs W hW => ?_) ?_; rotate_left; (focus (have hf := HF.out W hW; clear hW; go_simp; exact loose_val)); simp only [Act.put, List.setIfInBounds_toArray, List.set_cons_zero, List.set_cons_succ, List.nil_append, List.cons_append, Nat.reduceAdd, Leaves.at])
  refine told_val (v := .bool q1) (fun _ => rfl) (fun vs W hW => ?_) ?_
  · go_simp
    exact loose_call (HA.out W hW)
  simp only [Act.put, List.setIfInBounds_toArray, List.set_cons_zero, List.set_cons_succ, List.nil_append, List.cons_append, Nat.reduceAdd, Leaves.at]
  repeat (refine told_val (v := ?_) (fun _ => rfl) (fun vs W hW => ?_) ?_; rotate_left; (focus (have hf := HF.out W hW; clear hW; go_simp; exact loose_val)); simp only [Act.put, List.setIfInBounds_toArray, List.set_cons_zero, List.set_cons_succ, List.nil_append, List.cons_append, Nat.reduceAdd, Leaves.at])
  repeat (refine told_maybe (b := q1) (v := ?_) (fun _ => Bool.casesOn q1 rfl rfl) (fun hb vs W hW => ?_) ?_; rotate_left; (focus (have hf := HF.out W hW; clear hW; (try simp only [hb, cond_true, cond_false]); go_simp; exact loose_val)); simp only [Act.put, List.setIfInBounds_toArray, List.set_cons_zero, List.set_cons_succ, List.nil_append, List.cons_append, Nat.reduceAdd, Leaves.at])
  refine told_maybe (b := q1) (v := .bool q2) (fun _ => Bool.casesOn q1 rfl rfl) (fun hb vs W hW => ?_) ?_
  · try simp only [hb, cond_true, cond_false]
    go_simp
    exact loose_call (HU.out W hW)
  simp only [Act.put, List.setIfInBounds_toArray, List.set_cons_zero, List.set_cons_succ, List.nil_append, List.cons_append, Nat.reduceAdd, Leaves.at]
  refine told_val (v := .bool (q1 && q2)) (fun _ => rfl) (fun vs W hW => ?_) ?_
  · cases q1 <;> cases q2 <;> (go_simp; exact loose_val)
  simp only [Act.put, List.setIfInBounds_toArray, List.set_cons_zero, List.set_cons_succ, List.nil_append, List.cons_append, Nat.reduceAdd, Leaves.at]
  generalize (q1 && q2) = s1 at *
  repeat (refine told_val (v := ?_) (fun _ => rfl) (fun vs W hW => ?_) ?_; rotate_left; (focus (have hf := HF.out W hW; clear hW; go_simp; exact loose_val)); simp only [Act.put, List.setIfInBounds_toArray, List.set_cons_zero, List.set_cons_succ, List.nil_append, List.cons_append, Nat.reduceAdd, Leaves.at])
  repeat (refine told_maybe (b := s1) (v := ?_) (fun _ => Bool.casesOn s1 rfl rfl) (fun hb vs W hW => ?_) ?_; rotate_left; (focus (have hf := HF.out W hW; clear hW; (try simp only [hb, cond_true, cond_false]); go_simp; exact loose_val)); simp only [Act.put, List.setIfInBounds_toArray, List.set_cons_zero, List.set_cons_succ, List.nil_append, List.cons_append, Nat.reduceAdd, Leaves.at])
  refine told_maybe (b := s1) (v := .bool q3) (fun _ => Bool.casesOn s1 rfl rfl) (fun hb vs W hW => ?_) ?_
  · try simp only [hb, cond_true, cond_false]
    go_simp
    exact loose_call (HL.out W hW)
  simp only [Act.put, List.setIfInBounds_toArray, List.set_cons_zero, List.set_cons_succ, List.nil_append, List.cons_append, Nat.reduceAdd, Leaves.at]
  refine told_val (v := .bool (s1 && q3)) (fun _ => rfl) (fun vs W hW => ?_) ?_
  · cases s1 <;> cases q3 <;> (go_simp; exact loose_val)
  simp only [Act.put, List.setIfInBounds_toArray, List.set_cons_zero, List.set_cons_succ, List.nil_append, List.cons_append, Nat.reduceAdd, Leaves.at]
  generalize (s1 && q3) = s2 at *
  repeat (refine told_val (v := ?_) (fun _ => rfl) (fun vs W hW => ?_) ?_; rotate_left; (focus (have hf := HF.out W hW; clear hW; go_simp; exact loose_val)); simp only [Act.put, List.setIfInBounds_toArray, List.set_cons_zero, List.set_cons_succ, List.nil_append, List.cons_append, Nat.reduceAdd, Leaves.at])
  repeat (refine told_maybe (b := s2) (v := ?_) (fun _ => Bool.casesOn s2 rfl rfl) (fun hb vs W hW => ?_) ?_; rotate_left; (focus (have hf := HF.out W hW; clear hW; (try simp only [hb, cond_true, cond_false]); go_simp; exact loose_val)); simp only [Act.put, List.setIfInBounds_toArray, List.set_cons_zero, List.set_cons_succ, List.nil_append, List.cons_append, Nat.reduceAdd, Leaves.at])
  refine told_maybe (b := s2) (v := .bool q4) (fun _ => Bool.casesOn s2 rfl rfl) (fun hb vs W hW => ?_) ?_
  · try simp only [hb, cond_true, cond_false]
    go_simp
    exact loose_call (HM.out W hW)
  simp only [Act.put, List.setIfInBounds_toArray, List.set_cons_zero, List.set_cons_succ, List.nil_append, List.cons_append, Nat.reduceAdd, Leaves.at]
  refine told_val (v := .bool (s2 && q4)) (fun _ => rfl) (fun vs W hW => ?_) ?_
  · cases s2 <;> cases q4 <;> (go_simp; exact loose_val)
  simp only [Act.put, List.setIfInBounds_toArray, List.set_cons_zero, List.set_cons_succ, List.nil_append, List.cons_append, Nat.reduceAdd, Leaves.at]
  repeat (refine told_val (v := ?_) (fun _ => rfl) (fun vs W hW => ?_) ?_; rotate_left; (focus (have hf := HF.out W hW; clear hW; go_simp; exact loose_val)); simp only [Act.put, List.setIfInBounds_toArray, List.set_cons_zero, List.set_cons_succ, List.nil_append, List.cons_append, Nat.reduceAdd, Leaves.at])
  refine told_nil ?_
  intro vs W hW hok hap
  clear hap
  dsimp only
  have HB2 := hid (HB.out.trans (since_below hW HB.out.size))
  clear hok hW
  go_wp2_with fail
  go_ret
  exact ⟨by rw [HE.out]; rfl, HB2.out⟩

set_option maxHeartbeats 4000000 in
set_option maxRecDepth 100000 in
theorem f62 (w : World) (d0 : Int) (A0 : Option Addr) (n0 c0 : Nat) (l0 : List (Int × Int)) (e0 : Int) (E0 : Option Addr) (m0 k0 : Nat) (r0 : List (Int × Int)) (d1 : Int) (A1 : Option Addr) (n1 c1 : Nat) (l1 : List (Int × Int)) (t0 : CatsAt w w.heap.size A0 n0 c0 l0) (z0 : n0 ≤ 67108864) (u0 : CatsAt w w.heap.size E0 m0 k0 r0) (y0 : m0 ≤ 67108864) (t1 : CatsAt w w.heap.size A1 n1 c1 l1) (z1 : n1 ≤ 67108864) :
    Calls Try.prog 62 #[.agg #[.int .i64 d0, .slice A0 n0 c0, .int .i64 e0, .slice E0 m0 k0], .agg #[.int .i64 d1, .slice A1 n1 c1]] w fun e w' => e = .returned (.bool (taintsB d0 l0 e0 r0 d1 l1)) ∧ Below w.heap.size w w' := by
  have mixed : Try.prog.follows .mixedOrders = true := by kernel_rfl
  obtain ⟨q0, q1, q2⟩ := two_blk w #[.int .i64 d0, .slice A0 n0 c0, .int .i64 e0, .slice E0 m0 k0] #[.int .i64 d1, .slice A1 n1 c1] 43 26
  have HB := hid q0
  have HP0 := hid q1
  have HP1 := hid q2
  have H0 := hid ((t0.below q0).more q0.size)
  have G0 := hid ((u0.below q0).more q0.size)
  have H1 := hid ((t1.below q0).more q0.size)
  have HE : Hid ((taintsB d0 l0 e0 r0 d1 l1) = (rightB d1 l1 && risesP [(d0, l0), (d1, l1), (e0, r0)])) := by show _ = _; unfold taintsB; simp [risesP]
  clear t0 u0 t1 q0 q1 q2
  go_enter Try.func62, Try.ntmps62
  go_wp2_with (refine wp_list_told 12 12 nil_ rfl (by decide) ?_)
  generalize (w.alloc (.cells #[.int .i64 d0, .slice A0 n0 c0, .int .i64 e0, .slice E0 m0 k0] 43)).alloc (.cells #[.int .i64 d1, .slice A1 n1 c1] 26) = wa at *
  have HF : Hid (∀ W, But nil_ wa W → (W.cell? ⟨w.heap.size, 0, none⟩ = some (.int .i64 d0) ∧ W.cell? ⟨w.heap.size, 1, none⟩ = some (.slice A0 n0 c0) ∧ W.cell? ⟨w.heap.size, 2, none⟩ = some (.int .i64 e0) ∧ W.cell? ⟨w.heap.size, 3, none⟩ = some (.slice E0 m0 k0)) ∧ (W.cell? ⟨w.heap.size + 1, 0, none⟩ = some (.int .i64 d1) ∧ W.cell? ⟨w.heap.size + 1, 1, none⟩ = some (.slice A1 n1 c1))) := fun W hW => ⟨(hW.blk HP0.out (fun h => h)).cells4, (hW.blk HP1.out (fun h => h)).cells2⟩
  simp only [List.take_succ_cons, List.take_zero, List.drop_succ_cons, List.drop_zero]
  have HPU := hid (fun W (hW : But nil_ wa W) => right51 W d1 A1 n1 c1 l1 (H1.out.since_ hW))
  generalize rightB d1 l1 = q at *
  repeat (refine told_val (v := ?_) (fun _ => rfl) (fun vs W hW => ?_) ?_; rotate_left; (focus (have hf := HF.out W hW; clear hW; go_simp; exact loose_val)); simp only [Act.put, List.setIfInBounds_toArray, List.set_cons_zero, List.set_cons_succ, List.nil_append, List.cons_append, Nat.reduceAdd, Leaves.at])
  refine told_val (v := .bool q) (fun _ => rfl) (fun vs W hW => ?_) ?_
  · go_simp
    exact loose_call (HPU.out W hW)
  simp only [Act.put, List.setIfInBounds_toArray, List.set_cons_zero, List.set_cons_succ, List.nil_append, List.cons_append, Nat.reduceAdd, Leaves.at]
  repeat (refine told_val (v := ?_) (fun _ => rfl) (fun vs W hW => ?_) ?_; rotate_left; (focus (have hf := HF.out W hW; clear hW; go_simp; exact loose_val)); simp only [Act.put, List.setIfInBounds_toArray, List.set_cons_zero, List.set_cons_succ, List.nil_append, List.cons_append, Nat.reduceAdd, Leaves.at])
  cases q with
  | false =>
    repeat (first | (refine told_off (fun _ => rfl) ?_; simp only [Act.put, List.setIfInBounds_toArray, List.set_cons_zero, List.set_cons_succ, List.nil_append, List.cons_append, Nat.reduceAdd, Leaves.at]) | (refine told_val (v := ?_) (fun _ => rfl) (fun vs W hW => ?_) ?_; rotate_left; (focus (have hf := HF.out W hW; clear hW; go_simp; exact loose_val)); simp only [Act.put, List.setIfInBounds_toArray, List.set_cons_zero, List.set_cons_succ, List.nil_append, List.cons_append, Nat.reduceAdd, Leaves.at]))
    refine told_nil ?_
    intro vs W hW hok hap
    clear hap
    dsimp only
    have HB2 := hid (HB.out.trans (since_below hW HB.out.size))
    clear hok hW
    go_wp2_with fail
    go_ret
    exact ⟨by rw [HE.out]; rfl, HB2.out⟩
  | true =>
    repeat (refine told_val (v := ?_) (fun _ => rfl) (fun vs W hW => ?_) ?_; rotate_left; (focus (have hf := HF.out W hW; clear hW; go_simp; exact loose_val)); simp only [Act.put, List.setIfInBounds_toArray, List.set_cons_zero, List.set_cons_succ, List.nil_append, List.cons_append, Nat.reduceAdd, Leaves.at])
    refine told_rel (LabsR [(d0, l0), (d1, l1), (e0, r0)]) LabsR.stable (fun _ => rfl) (fun vs W hW hd => ?_) ?_
    · clear hd
      have hf := HF.out W hW
      have hmem := hid (List.forall_mem_cons.2 ⟨H0.out.since_ hW, List.forall_mem_cons.2 ⟨H1.out.since_ hW, List.forall_mem_cons.2 ⟨G0.out.since_ hW, fun _ h => nomatch h⟩⟩⟩ : ∀ l ∈ [(⟨d0, A0, n0, c0, l0⟩ : LabV), (⟨d1, A1, n1, c1, l1⟩ : LabV), (⟨e0, E0, m0, k0, r0⟩ : LabV)], l.at_ W)
      clear hW
      go_simp
      exact loose_labs _ hmem.out
    simp only [Act.put, List.setIfInBounds_toArray, List.set_cons_zero, List.set_cons_succ, List.nil_append, List.cons_append, Nat.reduceAdd, Leaves.at]
    refine told_val' (v := .bool (risesP [(d0, l0), (d1, l1), (e0, r0)])) (fun _ => rfl) (fun vs W hW hd => ?_) ?_
    · have hl := hd ⟨8, .data⟩ (by simp) rfl _ rfl (fun h => by cases h)
      have hr := hid (rises_R hl (by simp) (by simp))
      clear hd hl
      go_simp
      exact loose_call hr.out
    simp only [Act.put, List.setIfInBounds_toArray, List.set_cons_zero, List.set_cons_succ, List.nil_append, List.cons_append, Nat.reduceAdd, Leaves.at]
    repeat (refine told_val (v := ?_) (fun _ => rfl) (fun vs W hW => ?_) ?_; rotate_left; (focus (have hf := HF.out W hW; clear hW; go_simp; exact loose_val)); simp only [Act.put, List.setIfInBounds_toArray, List.set_cons_zero, List.set_cons_succ, List.nil_append, List.cons_append, Nat.reduceAdd, Leaves.at])
    refine told_nil ?_
    intro vs W hW hok hap
    clear hap
    dsimp only
    have HB2 := hid (HB.out.trans (since_below hW HB.out.size))
    clear hok hW
    go_wp2_with fail
    go_ret
    exact ⟨by rw [HE.out]; rfl, HB2.out⟩

set_option maxHeartbeats 4000000 in
set_option maxRecDepth 100000 in
theorem f63 (w : World) (d0 : Int) (A0 : Option Addr) (n0 c0 : Nat) (l0 : List (Int × Int)) (d1 : Int) (A1 : Option Addr) (n1 c1 : Nat) (l1 : List (Int × Int)) (d2 : Int) (A2 : Option Addr) (n2 c2 : Nat) (l2 : List (Int × Int)) (t0 : CatsAt w w.heap.size A0 n0 c0 l0) (z0 : n0 ≤ 67108864) (t1 : CatsAt w w.heap.size A1 n1 c1 l1) (z1 : n1 ≤ 67108864) (t2 : CatsAt w w.heap.size A2 n2 c2 l2) (z2 : n2 ≤ 67108864) :
    Calls Try.prog 63 #[.agg #[.int .i64 d0, .slice A0 n0 c0], .agg #[.int .i64 d1, .slice A1 n1 c1], .agg #[.int .i64 d2, .slice A2 n2 c2]] w fun e w' => e = .returned (.bool (taintsB d0 l0 d1 l1 d2 l2)) ∧ Below w.heap.size w w' := by
  have mixed : Try.prog.follows .mixedOrders = true := by kernel_rfl
  obtain ⟨q0, q1, q2, q3⟩ := three_blk w #[.int .i64 d0, .slice A0 n0 c0] #[.int .i64 d1, .slice A1 n1 c1] #[.int .i64 d2, .slice A2 n2 c2] 26 26 26
  have HB := hid q0
  have HP0 := hid q1
  have HP1 := hid q2
  have HP2 := hid q3
  have H0 := hid ((t0.below q0).more q0.size)
  have H1 := hid ((t1.below q0).more q0.size)
  have H2 := hid ((t2.below q0).more q0.size)
  have HE : Hid ((taintsB d0 l0 d1 l1 d2 l2) = ((rightB d2 l2 && leqB d0 l0 d2 l2) && leqB d2 l2 d1 l1)) := by show _ = _; unfold taintsB; simp [Bool.and_assoc]
  clear t0 t1 t2 q0 q1 q2 q3
  go_enter Try.func63, Try.ntmps63
  go_wp2_with (refine wp_list_told 13 13 nil_ rfl (by decide) ?_)
  generalize ((w.alloc (.cells #[.int .i64 d0, .slice A0 n0 c0] 26)).alloc (.cells #[.int .i64 d1, .slice A1 n1 c1] 26)).alloc (.cells #[.int .i64 d2, .slice A2 n2 c2] 26) = wa at *
  have HF : Hid (∀ W, But nil_ wa W → (W.cell? ⟨w.heap.size, 0, none⟩ = some (.int .i64 d0) ∧ W.cell? ⟨w.heap.size, 1, none⟩ = some (.slice A0 n0 c0)) ∧ (W.cell? ⟨w.heap.size + 1, 0, none⟩ = some (.int .i64 d1) ∧ W.cell? ⟨w.heap.size + 1, 1, none⟩ = some (.slice A1 n1 c1)) ∧ (W.cell? ⟨w.heap.size + 1 + 1, 0, none⟩ = some (.int .i64 d2) ∧ W.cell? ⟨w.heap.size + 1 + 1, 1, none⟩ = some (.slice A2 n2 c2))) := fun W hW => ⟨(hW.blk HP0.out (fun h => h)).cells2, (hW.blk HP1.out (fun h => h)).cells2, (hW.blk HP2.out (fun h => h)).cells2⟩
  simp only [List.take_succ_cons, List.take_zero, List.drop_succ_cons, List.drop_zero]
  have HA := hid (fun W (hW : But nil_ wa W) => right52 W d2 A2 n2 c2 l2 (H2.out.since_ hW))
  have HL := hid (fun W (hW : But nil_ wa W) => leq41_b W d0 d2 A0 A2 n0 c0 n2 c2 l0 l2 (H0.out.since_ hW) (H2.out.since_ hW) (by omega))
  have HM := hid (fun W (hW : But nil_ wa W) => leq41_b W d2 d1 A2 A1 n2 c2 n1 c1 l2 l1 (H2.out.since_ hW) (H1.out.since_ hW) (by omega))
  generalize rightB d2 l2 = q1 at *
  generalize leqB d0 l0 d2 l2 = q3 at *
  generalize leqB d2 l2 d1 l1 = q4 at *
  repeat (refine told_val (v := ?_) (fun _ => rfl) (fun vs W hW => ?_) ?_; rotate_left; (focus (have hf := HF.out W hW; clear hW; go_simp; exact loose_val)); simp only [Act.put, List.setIfInBounds_toArray, List.set_cons_zero, List.set_cons_succ, List.nil_append, List.cons_append, Nat.reduceAdd, Leaves.at])
  refine told_val (v := .bool q1) (fun _ => rfl) (fun vs W hW => ?_) ?_
  · go_simp
    exact loose_call (HA.out W hW)
  simp only [Act.put, List.setIfInBounds_toArray, List.set_cons_zero, List.set_cons_succ, List.nil_append, List.cons_append, Nat.reduceAdd, Leaves.at]
  repeat (refine told_val (v := ?_) (fun _ => rfl) (fun vs W hW => ?_) ?_; rotate_left; (focus (have hf := HF.out W hW; clear hW; go_simp; exact loose_val)); simp only [Act.put, List.setIfInBounds_toArray, List.set_cons_zero, List.set_cons_succ, List.nil_append, List.cons_append, Nat.reduceAdd, Leaves.at])
  repeat (refine told_maybe (b := q1) (v := ?_) (fun _ => Bool.casesOn q1 rfl rfl) (fun hb vs W hW => ?_) ?_; rotate_left; (focus (have hf := HF.out W hW; clear hW; (try simp only [hb, cond_true, cond_false]); go_simp; exact loose_val)); simp only [Act.put, List.setIfInBounds_toArray, List.set_cons_zero, List.set_cons_succ, List.nil_append, List.cons_append, Nat.reduceAdd, Leaves.at])
  refine told_maybe (b := q1) (v := .bool q3) (fun _ => Bool.casesOn q1 rfl rfl) (fun hb vs W hW => ?_) ?_
  · try simp only [hb, cond_true, cond_false]
    go_simp
    exact loose_call (HL.out W hW)
  simp only [Act.put, List.setIfInBounds_toArray, List.set_cons_zero, List.set_cons_succ, List.nil_append, List.cons_append, Nat.reduceAdd, Leaves.at]
  refine told_val (v := .bool (q1 && q3)) (fun _ => rfl) (fun vs W hW => ?_) ?_
  · cases q1 <;> cases q3 <;> (go_simp; exact loose_val)
  simp only [Act.put, List.setIfInBounds_toArray, List.set_cons_zero, List.set_cons_succ, List.nil_append, List.cons_append, Nat.reduceAdd, Leaves.at]
  generalize (q1 && q3) = s2 at *
  repeat (refine told_val (v := ?_) (fun _ => rfl) (fun vs W hW => ?_) ?_; rotate_left; (focus (have hf := HF.out W hW; clear hW; go_simp; exact loose_val)); simp only [Act.put, List.setIfInBounds_toArray, List.set_cons_zero, List.set_cons_succ, List.nil_append, List.cons_append, Nat.reduceAdd, Leaves.at])
  repeat (refine told_maybe (b := s2) (v := ?_) (fun _ => Bool.casesOn s2 rfl rfl) (fun hb vs W hW => ?_) ?_; rotate_left; (focus (have hf := HF.out W hW; clear hW; (try simp only [hb, cond_true, cond_false]); go_simp; exact loose_val)); simp only [Act.put, List.setIfInBounds_toArray, List.set_cons_zero, List.set_cons_succ, List.nil_append, List.cons_append, Nat.reduceAdd, Leaves.at])
  refine told_maybe (b := s2) (v := .bool q4) (fun _ => Bool.casesOn s2 rfl rfl) (fun hb vs W hW => ?_) ?_
  · try simp only [hb, cond_true, cond_false]
    go_simp
    exact loose_call (HM.out W hW)
  simp only [Act.put, List.setIfInBounds_toArray, List.set_cons_zero, List.set_cons_succ, List.nil_append, List.cons_append, Nat.reduceAdd, Leaves.at]
  refine told_val (v := .bool (s2 && q4)) (fun _ => rfl) (fun vs W hW => ?_) ?_
  · cases s2 <;> cases q4 <;> (go_simp; exact loose_val)
  simp only [Act.put, List.setIfInBounds_toArray, List.set_cons_zero, List.set_cons_succ, List.nil_append, List.cons_append, Nat.reduceAdd, Leaves.at]
  repeat (refine told_val (v := ?_) (fun _ => rfl) (fun vs W hW => ?_) ?_; rotate_left; (focus (have hf := HF.out W hW; clear hW; go_simp; exact loose_val)); simp only [Act.put, List.setIfInBounds_toArray, List.set_cons_zero, List.set_cons_succ, List.nil_append, List.cons_append, Nat.reduceAdd, Leaves.at])
  refine told_nil ?_
  intro vs W hW hok hap
  clear hap
  dsimp only
  have HB2 := hid (HB.out.trans (since_below hW HB.out.size))
  clear hok hW
  go_wp2_with fail
  go_ret
  exact ⟨by rw [HE.out]; rfl, HB2.out⟩

end Go.Proofs.Ytndohmimcbmhdaa
