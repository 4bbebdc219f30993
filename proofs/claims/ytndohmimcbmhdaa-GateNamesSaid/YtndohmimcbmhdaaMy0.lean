/- flow's checks and the document's. -/
import Derived.Test.YtndohmimcbmhdaaMz18
set_option linter.unusedVariables false
set_option linter.unusedSimpArgs false
namespace Go.Proofs.Ytndohmimcbmhdaa
open Go.RowKit Go.Sort

theorem Blk.cells4 {w : World} {g : Nat} {t : TypeId} {a b c d : Value} (h : Blk w g t #[a, b, c, d]) : w.cell? ⟨g, 0, none⟩ = some a ∧ w.cell? ⟨g, 1, none⟩ = some b ∧ w.cell? ⟨g, 2, none⟩ = some c ∧ w.cell? ⟨g, 3, none⟩ = some d := ⟨(Blk.cell h 0).trans rfl, (Blk.cell h 1).trans rfl, (Blk.cell h 2).trans rfl, (Blk.cell h 3).trans rfl⟩
def readsB (d : Int) (l : List (Int × Int)) (d' : Int) (l' : List (Int × Int)) : Bool := leqB d' l' (turnF 0 5 d d) (raiseL d l)
def writesB (d : Int) (l : List (Int × Int)) (d' : Int) (l' : List (Int × Int)) : Bool := readsB d l d' l' && leqB d l d' l'
def whoB (d : Int) (l : List (Int × Int)) (e : Int) (r : List (Int × Int)) : Bool := rightB d l && pureB e r
def makesB (d : Int) (l : List (Int × Int)) (e : Int) (r : List (Int × Int)) (d' : Int) (l' : List (Int × Int)) : Bool := pureB d' l' && (leqB d l d' l' && leqB d' l' e r)
def taintsB (d : Int) (l : List (Int × Int)) (e : Int) (r : List (Int × Int)) (d' : Int) (l' : List (Int × Int)) : Bool := rightB d' l' && (leqB d l d' l' && leqB d' l' e r)
def spawnsB (d : Int) (l : List (Int × Int)) (e : Int) (r : List (Int × Int)) (d' : Int) (l' : List (Int × Int)) (e' : Int) (r' : List (Int × Int)) : Bool := whoB d' l' e' r' && (leqB d l d' l' && (leqB d' l' e' r' && leqB e' r' e r))

set_option maxHeartbeats 4000000 in
set_option maxRecDepth 100000 in
theorem f54 (w : World) (d0 : Int) (A0 : Option Addr) (n0 c0 : Nat) (l0 : List (Int × Int)) (e0 : Int) (E0 : Option Addr) (m0 k0 : Nat) (r0 : List (Int × Int)) (d1 : Int) (A1 : Option Addr) (n1 c1 : Nat) (l1 : List (Int × Int)) (t0 : CatsAt w w.heap.size A0 n0 c0 l0) (z0 : n0 ≤ 67108864) (u0 : CatsAt w w.heap.size E0 m0 k0 r0) (y0 : m0 ≤ 67108864) (t1 : CatsAt w w.heap.size A1 n1 c1 l1) (z1 : n1 ≤ 67108864) :
    Calls Try.prog 54 #[.agg #[.int .i64 d0, .slice A0 n0 c0, .int .i64 e0, .slice E0 m0 k0], .agg #[.int .i64 d1, .slice A1 n1 c1]] w fun e w' => e = .returned (.bool (readsB d0 l0 d1 l1)) ∧ Below w.heap.size w w' := by
  have mixed : Try.prog.follows .mixedOrders = true := by kernel_rfl
  obtain ⟨q0, q1, q2⟩ := two_blk w #[.int .i64 d0, .slice A0 n0 c0, .int .i64 e0, .slice E0 m0 k0] #[.int .i64 d1, .slice A1 n1 c1] 43 26
  have HB := hid q0
  have HP0 := hid q1
  have HP1 := hid q2
  have H0 := hid ((t0.below q0).more q0.size)
  have G0 := hid ((u0.below q0).more q0.size)
  have H1 := hid ((t1.below q0).more q0.size)
  have HE : Hid ((readsB d0 l0 d1 l1) = (risesP [(d1, l1), (turnF 0 5 d0 d0, raiseL d0 l0)])) := by show _ = _; unfold readsB; simp [risesP]
  clear t0 u0 t1 q0 q1 q2
  go_enter Try.func54, Try.ntmps54
  go_wp2_with fail
  generalize (w.alloc (.cells #[.int .i64 d0, .slice A0 n0 c0, .int .i64 e0, .slice E0 m0 k0] 43)).alloc (.cells #[.int .i64 d1, .slice A1 n1 c1] 26) = wa at *
  have HF : Hid (∀ W, But nil_ wa W → (W.cell? ⟨w.heap.size, 0, none⟩ = some (.int .i64 d0) ∧ W.cell? ⟨w.heap.size, 1, none⟩ = some (.slice A0 n0 c0) ∧ W.cell? ⟨w.heap.size, 2, none⟩ = some (.int .i64 e0) ∧ W.cell? ⟨w.heap.size, 3, none⟩ = some (.slice E0 m0 k0)) ∧ (W.cell? ⟨w.heap.size + 1, 0, none⟩ = some (.int .i64 d1) ∧ W.cell? ⟨w.heap.size + 1, 1, none⟩ = some (.slice A1 n1 c1))) := fun W hW => ⟨(hW.blk HP0.out (fun h => h)).cells4, (hW.blk HP1.out (fun h => h)).cells2⟩
  refine wp_region_told 7 nil_ mixed (by kernel_rfl) ?_
  simp only [List.take_succ_cons, List.take_zero, List.drop_succ_cons, List.drop_zero]
  repeat (refine told_val (v := ?_) (fun _ => rfl) (fun vs W hW => ?_) ?_; rotate_left; (focus (have hf := HF.out W hW; clear hW; go_simp; exact loose_val)); simp only [Act.put, List.setIfInBounds_toArray, List.set_cons_zero, List.set_cons_succ, List.nil_append, List.cons_append, Nat.reduceAdd, Leaves.at])
  refine told_rel (LabR (turnF 0 5 d0 d0) (raiseL d0 l0)) LabR.stable (fun _ => rfl) (fun vs W hW hd => ?_) ?_
  · clear hd
    go_simp
    exact loose_callR (raise46_l W d0 A0 n0 c0 l0 (H0.out.since_ hW) (by omega))
  simp only [Act.put, List.setIfInBounds_toArray, List.set_cons_zero, List.set_cons_succ, List.nil_append, List.cons_append, Nat.reduceAdd, Leaves.at]
  refine told_rel (LabsR [(d1, l1), (turnF 0 5 d0 d0, raiseL d0 l0)]) LabsR.stable (fun _ => rfl) (fun vs W hW hd => ?_) ?_
  · obtain ⟨P3, m3', k3', e3', hT3⟩ := hd ⟨3, .data⟩ (by simp) rfl _ rfl (fun h => by cases h)
    clear hd
    have hf := HF.out W hW
    have hmem := hid (List.forall_mem_cons.2 ⟨H1.out.since_ hW, List.forall_mem_cons.2 ⟨hT3, fun _ h => nomatch h⟩⟩ : ∀ l ∈ [(⟨d1, A1, n1, c1, l1⟩ : LabV), (⟨turnF 0 5 d0 d0, P3, m3', k3', raiseL d0 l0⟩ : LabV)], l.at_ W)
    clear hW
    go_simp
    exact loose_labs _ hmem.out
  simp only [Act.put, List.setIfInBounds_toArray, List.set_cons_zero, List.set_cons_succ, List.nil_append, List.cons_append, Nat.reduceAdd, Leaves.at]
  refine told_val' (v := .bool (risesP [(d1, l1), (turnF 0 5 d0 d0, raiseL d0 l0)])) (fun _ => rfl) (fun vs W hW hd => ?_) ?_
  · have hl := hd ⟨4, .data⟩ (by simp) rfl _ rfl (fun h => by cases h)
    have hr := hid (rises_R hl (by simp) (by simp))
    clear hd hl
    go_simp
    exact loose_call hr.out
  simp only [Act.put, List.setIfInBounds_toArray, List.set_cons_zero, List.set_cons_succ, List.nil_append, List.cons_append, Nat.reduceAdd, Leaves.at]
  repeat (refine told_val (v := ?_) (fun _ => rfl) (fun vs W hW => ?_) ?_; rotate_left; (focus (have hf := HF.out W hW; clear hW; go_simp; exact loose_val)); simp only [Act.put, List.setIfInBounds_toArray, List.set_cons_zero, List.set_cons_succ, List.nil_append, List.cons_append, Nat.reduceAdd, Leaves.at])
  refine told_nil ?_
  intro vs W hW hok hap
  clear hap
  dsimp only
  have HB2 := hid (HB.out.trans (since_below hW HB.out.size))
  clear hok hW
  go_wp2_with fail
  go_ret
  exact ⟨by rw [HE.out]; rfl, HB2.out⟩

set_option maxHeartbeats 4000000 in
set_option maxRecDepth 100000 in
theorem f55 (w : World) (d0 : Int) (A0 : Option Addr) (n0 c0 : Nat) (l0 : List (Int × Int)) (d1 : Int) (A1 : Option Addr) (n1 c1 : Nat) (l1 : List (Int × Int)) (t0 : CatsAt w w.heap.size A0 n0 c0 l0) (z0 : n0 ≤ 67108864) (t1 : CatsAt w w.heap.size A1 n1 c1 l1) (z1 : n1 ≤ 67108864) :
    Calls Try.prog 55 #[.agg #[.int .i64 d0, .slice A0 n0 c0], .agg #[.int .i64 d1, .slice A1 n1 c1]] w fun e w' => e = .returned (.bool (readsB d0 l0 d1 l1)) ∧ Below w.heap.size w w' := by
  have mixed : Try.prog.follows .mixedOrders = true := by kernel_rfl
  obtain ⟨q0, q1, q2⟩ := two_blk w #[.int .i64 d0, .slice A0 n0 c0] #[.int .i64 d1, .slice A1 n1 c1] 26 26
  have HB := hid q0
  have HP0 := hid q1
  have HP1 := hid q2
  have H0 := hid ((t0.below q0).more q0.size)
  have H1 := hid ((t1.below q0).more q0.size)
  clear t0 t1 q0 q1 q2
  go_enter Try.func55, Try.ntmps55
  go_wp2_with fail
  generalize (w.alloc (.cells #[.int .i64 d0, .slice A0 n0 c0] 26)).alloc (.cells #[.int .i64 d1, .slice A1 n1 c1] 26) = wa at *
  have HF : Hid (∀ W, But nil_ wa W → (W.cell? ⟨w.heap.size, 0, none⟩ = some (.int .i64 d0) ∧ W.cell? ⟨w.heap.size, 1, none⟩ = some (.slice A0 n0 c0)) ∧ (W.cell? ⟨w.heap.size + 1, 0, none⟩ = some (.int .i64 d1) ∧ W.cell? ⟨w.heap.size + 1, 1, none⟩ = some (.slice A1 n1 c1))) := fun W hW => ⟨(hW.blk HP0.out (fun h => h)).cells2, (hW.blk HP1.out (fun h => h)).cells2⟩
  refine wp_region_told 5 nil_ mixed (by kernel_rfl) ?_
  simp only [List.take_succ_cons, List.take_zero, List.drop_succ_cons, List.drop_zero]
  repeat (refine told_val (v := ?_) (fun _ => rfl) (fun vs W hW => ?_) ?_; rotate_left; (focus (have hf := HF.out W hW; clear hW; go_simp; exact loose_val)); simp only [Act.put, List.setIfInBounds_toArray, List.set_cons_zero, List.set_cons_succ, List.nil_append, List.cons_append, Nat.reduceAdd, Leaves.at])
  refine told_rel (LabR (turnF 0 5 d0 d0) (raiseL d0 l0)) LabR.stable (fun _ => rfl) (fun vs W hW hd => ?_) ?_
  · clear hd
    go_simp
    exact loose_callR (raise112 W d0 A0 n0 c0 l0 (H0.out.since_ hW) (by omega))
  simp only [Act.put, List.setIfInBounds_toArray, List.set_cons_zero, List.set_cons_succ, List.nil_append, List.cons_append, Nat.reduceAdd, Leaves.at]
  refine told_val' (v := .bool (readsB d0 l0 d1 l1)) (fun _ => rfl) (fun vs W hW hd => ?_) ?_
  · obtain ⟨P2, m2, k2, e2, hT2⟩ := hd ⟨2, .data⟩ (by simp) rfl _ rfl (fun h => by cases h)
    clear hd
    go_simp
    exact loose_call (leq41_b W _ _ A1 P2 n1 c1 m2 k2 l1 _ (H1.out.since_ hW) hT2 (by have := hT2.len; have := raiseL_len d0 l0; have := H0.out.len; omega))
  simp only [Act.put, List.setIfInBounds_toArray, List.set_cons_zero, List.set_cons_succ, List.nil_append, List.cons_append, Nat.reduceAdd, Leaves.at]
  repeat (refine told_val (v := ?_) (fun _ => rfl) (fun vs W hW => ?_) ?_; rotate_left; (focus (have hf := HF.out W hW; clear hW; go_simp; exact loose_val)); simp only [Act.put, List.setIfInBounds_toArray, List.set_cons_zero, List.set_cons_succ, List.nil_append, List.cons_append, Nat.reduceAdd, Leaves.at])
  refine told_nil ?_
  intro vs W hW hok hap
  clear hap
  dsimp only
  have HB2 := hid (HB.out.trans (since_below hW HB.out.size))
  clear hok hW
  go_wp2_with fail
  go_ret
  exact ⟨rfl, HB2.out⟩

set_option maxHeartbeats 4000000 in
set_option maxRecDepth 100000 in
theorem f56 (w : World) (d0 : Int) (A0 : Option Addr) (n0 c0 : Nat) (l0 : List (Int × Int)) (e0 : Int) (E0 : Option Addr) (m0 k0 : Nat) (r0 : List (Int × Int)) (d1 : Int) (A1 : Option Addr) (n1 c1 : Nat) (l1 : List (Int × Int)) (t0 : CatsAt w w.heap.size A0 n0 c0 l0) (z0 : n0 ≤ 67108864) (u0 : CatsAt w w.heap.size E0 m0 k0 r0) (y0 : m0 ≤ 67108864) (t1 : CatsAt w w.heap.size A1 n1 c1 l1) (z1 : n1 ≤ 67108864) :
    Calls Try.prog 56 #[.agg #[.int .i64 d0, .slice A0 n0 c0, .int .i64 e0, .slice E0 m0 k0], .agg #[.int .i64 d1, .slice A1 n1 c1]] w fun e w' => e = .returned (.bool (writesB d0 l0 d1 l1)) ∧ Below w.heap.size w w' := by
  have mixed : Try.prog.follows .mixedOrders = true := by kernel_rfl
  obtain ⟨q0, q1, q2⟩ := two_blk w #[.int .i64 d0, .slice A0 n0 c0, .int .i64 e0, .slice E0 m0 k0] #[.int .i64 d1, .slice A1 n1 c1] 43 26
  have HB := hid q0
  have HP0 := hid q1
  have HP1 := hid q2
  have H0 := hid ((t0.below q0).more q0.size)
  have G0 := hid ((u0.below q0).more q0.size)
  have H1 := hid ((t1.below q0).more q0.size)
  have HE : Hid ((writesB d0 l0 d1 l1) = (risesP [(d0, l0), (d1, l1), (turnF 0 5 d0 d0, raiseL d0 l0)])) := by show _ = _; unfold writesB readsB; simp [risesP, Bool.and_comm]
  clear t0 u0 t1 q0 q1 q2
  go_enter Try.func56, Try.ntmps56
  go_wp2_with fail
  generalize (w.alloc (.cells #[.int .i64 d0, .slice A0 n0 c0, .int .i64 e0, .slice E0 m0 k0] 43)).alloc (.cells #[.int .i64 d1, .slice A1 n1 c1] 26) = wa at *
  have HF : Hid (∀ W, But nil_ wa W → (W.cell? ⟨w.heap.size, 0, none⟩ = some (.int .i64 d0) ∧ W.cell? ⟨w.heap.size, 1, none⟩ = some (.slice A0 n0 c0) ∧ W.cell? ⟨w.heap.size, 2, none⟩ = some (.int .i64 e0) ∧ W.cell? ⟨w.heap.size, 3, none⟩ = some (.slice E0 m0 k0)) ∧ (W.cell? ⟨w.heap.size + 1, 0, none⟩ = some (.int .i64 d1) ∧ W.cell? ⟨w.heap.size + 1, 1, none⟩ = some (.slice A1 n1 c1))) := fun W hW => ⟨(hW.blk HP0.out (fun h => h)).cells4, (hW.blk HP1.out (fun h => h)).cells2⟩
  refine wp_region_told 9 nil_ mixed (by kernel_rfl) ?_
  simp only [List.take_succ_cons, List.take_zero, List.drop_succ_cons, List.drop_zero]
  repeat (refine told_val (v := ?_) (fun _ => rfl) (fun vs W hW => ?_) ?_; rotate_left; (focus (have hf := HF.out W hW; clear hW; go_simp; exact loose_val)); simp only [Act.put, List.setIfInBounds_toArray, List.set_cons_zero, List.set_cons_succ, List.nil_append, List.cons_append, Nat.reduceAdd, Leaves.at])
  refine told_rel (LabR (turnF 0 5 d0 d0) (raiseL d0 l0)) LabR.stable (fun _ => rfl) (fun vs W hW hd => ?_) ?_
  · clear hd
    go_simp
    exact loose_callR (raise46_l W d0 A0 n0 c0 l0 (H0.out.since_ hW) (by omega))
  simp only [Act.put, List.setIfInBounds_toArray, List.set_cons_zero, List.set_cons_succ, List.nil_append, List.cons_append, Nat.reduceAdd, Leaves.at]
  refine told_rel (LabsR [(d0, l0), (d1, l1), (turnF 0 5 d0 d0, raiseL d0 l0)]) LabsR.stable (fun _ => rfl) (fun vs W hW hd => ?_) ?_
  · obtain ⟨P5, m5', k5', e5', hT5⟩ := hd ⟨5, .data⟩ (by simp) rfl _ rfl (fun h => by cases h)
    clear hd
    have hf := HF.out W hW
    have hmem := hid (List.forall_mem_cons.2 ⟨H0.out.since_ hW, List.forall_mem_cons.2 ⟨H1.out.since_ hW, List.forall_mem_cons.2 ⟨hT5, fun _ h => nomatch h⟩⟩⟩ : ∀ l ∈ [(⟨d0, A0, n0, c0, l0⟩ : LabV), (⟨d1, A1, n1, c1, l1⟩ : LabV), (⟨turnF 0 5 d0 d0, P5, m5', k5', raiseL d0 l0⟩ : LabV)], l.at_ W)
    clear hW
    go_simp
    exact loose_labs _ hmem.out
  simp only [Act.put, List.setIfInBounds_toArray, List.set_cons_zero, List.set_cons_succ, List.nil_append, List.cons_append, Nat.reduceAdd, Leaves.at]
  refine told_val' (v := .bool (risesP [(d0, l0), (d1, l1), (turnF 0 5 d0 d0, raiseL d0 l0)])) (fun _ => rfl) (fun vs W hW hd => ?_) ?_
  · have hl := hd ⟨6, .data⟩ (by simp) rfl _ rfl (fun h => by cases h)
    have hr := hid (rises_R hl (by simp) (by simp))
    clear hd hl
    go_simp
    exact loose_call hr.out
  simp only [Act.put, List.setIfInBounds_toArray, List.set_cons_zero, List.set_cons_succ, List.nil_append, List.cons_append, Nat.reduceAdd, Leaves.at]
  repeat (refine told_val (v := ?_) (fun _ => rfl) (fun vs W hW => ?_) ?_; rotate_left; (focus (have hf := HF.out W hW; clear hW; go_simp; exact loose_val)); simp only [Act.put, List.setIfInBounds_toArray, List.set_cons_zero, List.set_cons_succ, List.nil_append, List.cons_append, Nat.reduceAdd, Leaves.at])
  refine told_nil ?_
  intro vs W hW hok hap
  clear hap
  dsimp only
  have HB2 := hid (HB.out.trans (since_below hW HB.out.size))
  clear hok hW
  go_wp2_with fail
  go_ret
  exact ⟨by rw [HE.out]; rfl, HB2.out⟩

set_option maxHeartbeats 4000000 in
set_option maxRecDepth 100000 in
theorem f57 (w : World) (d0 : Int) (A0 : Option Addr) (n0 c0 : Nat) (l0 : List (Int × Int)) (d1 : Int) (A1 : Option Addr) (n1 c1 : Nat) (l1 : List (Int × Int)) (t0 : CatsAt w w.heap.size A0 n0 c0 l0) (z0 : n0 ≤ 67108864) (t1 : CatsAt w w.heap.size A1 n1 c1 l1) (z1 : n1 ≤ 67108864) :
    Calls Try.prog 57 #[.agg #[.int .i64 d0, .slice A0 n0 c0], .agg #[.int .i64 d1, .slice A1 n1 c1]] w fun e w' => e = .returned (.bool (writesB d0 l0 d1 l1)) ∧ Below w.heap.size w w' := by
  have mixed : Try.prog.follows .mixedOrders = true := by kernel_rfl
  obtain ⟨q0, q1, q2⟩ := two_blk w #[.int .i64 d0, .slice A0 n0 c0] #[.int .i64 d1, .slice A1 n1 c1] 26 26
  have HB := hid q0
  have HP0 := hid q1
  have HP1 := hid q2
  have H0 := hid ((t0.below q0).more q0.size)
  have H1 := hid ((t1.below q0).more q0.size)
  have HE : Hid ((writesB d0 l0 d1 l1) = (readsB d0 l0 d1 l1 && leqB d0 l0 d1 l1)) := by show _ = _; rfl
  clear t0 t1 q0 q1 q2
  go_enter Try.func57, Try.ntmps57
  go_wp2_with (refine wp_list_told 9 9 nil_ rfl (by decide) ?_)
  generalize (w.alloc (.cells #[.int .i64 d0, .slice A0 n0 c0] 26)).alloc (.cells #[.int .i64 d1, .slice A1 n1 c1] 26) = wa at *
  have HF : Hid (∀ W, But nil_ wa W → (W.cell? ⟨w.heap.size, 0, none⟩ = some (.int .i64 d0) ∧ W.cell? ⟨w.heap.size, 1, none⟩ = some (.slice A0 n0 c0)) ∧ (W.cell? ⟨w.heap.size + 1, 0, none⟩ = some (.int .i64 d1) ∧ W.cell? ⟨w.heap.size + 1, 1, none⟩ = some (.slice A1 n1 c1))) := fun W hW => ⟨(hW.blk HP0.out (fun h => h)).cells2, (hW.blk HP1.out (fun h => h)).cells2⟩
  try simp only [List.take_succ_cons, List.take_zero, List.drop_succ_cons, List.drop_zero]
  have HA := hid (fun W (hW : But nil_ wa W) => f55 W d0 A0 n0 c0 l0 d1 A1 n1 c1 l1 (H0.out.since_ hW) z0 (H1.out.since_ hW) z1)
  have HL := hid (fun W (hW : But nil_ wa W) => leq41_b W d0 d1 A0 A1 n0 c0 n1 c1 l0 l1 (H0.out.since_ hW) (H1.out.since_ hW) (by omega))
  generalize readsB d0 l0 d1 l1 = q at *
  generalize leqB d0 l0 d1 l1 = p at *
  repeat (refine told_val (v := ?_) (fun _ => rfl) (fun vs W hW => ?_) ?_; rotate_left; (focus (have hf := HF.out W hW; clear hW; go_simp; exact loose_val)); simp only [Act.put, List.setIfInBounds_toArray, List.set_cons_zero, List.set_cons_succ, List.nil_append, List.cons_append, Nat.reduceAdd, Leaves.at])
  refine told_val (v := .bool q) (fun _ => rfl) (fun vs W hW => ?_) ?_
  · go_simp
    exact loose_call (HA.out W hW)
  simp only [Act.put, List.setIfInBounds_toArray, List.set_cons_zero, List.set_cons_succ, List.nil_append, List.cons_append, Nat.reduceAdd, Leaves.at]
  repeat (refine told_val (v := ?_) (fun _ => rfl) (fun vs W hW => ?_) ?_; rotate_left; (focus (have hf := HF.out W hW; clear hW; go_simp; exact loose_val)); simp only [Act.put, List.setIfInBounds_toArray, List.set_cons_zero, List.set_cons_succ, List.nil_append, List.cons_append, Nat.reduceAdd, Leaves.at])
  repeat (refine told_maybe (b := q) (v := ?_) (fun _ => Bool.casesOn q rfl rfl) (fun hb vs W hW => ?_) ?_; rotate_left; (focus (have hf := HF.out W hW; clear hW; (try simp only [hb, cond_true, cond_false]); go_simp; exact loose_val)); simp only [Act.put, List.setIfInBounds_toArray, List.set_cons_zero, List.set_cons_succ, List.nil_append, List.cons_append, Nat.reduceAdd, Leaves.at])
  refine told_maybe (b := q) (v := .bool p) (fun _ => Bool.casesOn q rfl rfl) (fun hb vs W hW => ?_) ?_
  · try simp only [hb, cond_true, cond_false]
    go_simp
    exact loose_call (HL.out W hW)
  simp only [Act.put, List.setIfInBounds_toArray, List.set_cons_zero, List.set_cons_succ, List.nil_append, List.cons_append, Nat.reduceAdd, Leaves.at]
  refine told_val (v := .bool (q && p)) (fun _ => rfl) (fun vs W hW => ?_) ?_
  · cases q <;> cases p <;> (go_simp; exact loose_val)
  simp only [Act.put, List.setIfInBounds_toArray, List.set_cons_zero, List.set_cons_succ, List.nil_append, List.cons_append, Nat.reduceAdd, Leaves.at]
  repeat (refine told_val (v := ?_) (fun _ => rfl) (fun vs W hW => ?_) ?_; rotate_left; (focus (have hf := HF.out W hW; clear hW; go_simp; exact loose_val)); simp only [Act.put, List.setIfInBounds_toArray, List.set_cons_zero, List.set_cons_succ, List.nil_append, List.cons_append, Nat.reduceAdd, Leaves.at])
  refine told_nil ?_
  intro vs W hW hok hap
  clear hap
  dsimp only
  have HB2 := hid (HB.out.trans (since_below hW HB.out.size))
  clear hok hW
  go_wp2_with fail
  go_ret
  exact ⟨by rw [HE.out]; rfl, HB2.out⟩

set_option maxHeartbeats 4000000 in
set_option maxRecDepth 100000 in
theorem f115 (w : World) (d0 : Int) (A0 : Option Addr) (n0 c0 : Nat) (l0 : List (Int × Int)) (e0 : Int) (E0 : Option Addr) (m0 k0 : Nat) (r0 : List (Int × Int)) (t0 : CatsAt w w.heap.size A0 n0 c0 l0) (z0 : n0 ≤ 67108864) (u0 : CatsAt w w.heap.size E0 m0 k0 r0) (y0 : m0 ≤ 67108864) :
    Calls Try.prog 115 #[.agg #[.int .i64 d0, .slice A0 n0 c0, .int .i64 e0, .slice E0 m0 k0]] w fun e w' => e = .returned (.bool (whoB d0 l0 e0 r0)) ∧ Below w.heap.size w w' := by
  have mixed : Try.prog.follows .mixedOrders = true := by kernel_rfl
  have HB : Hid (Below w.heap.size w (w.alloc (.cells #[.int .i64 d0, .slice A0 n0 c0, .int .i64 e0, .slice E0 m0 k0] 43))) := (Below.refl _ w).alloc (Nat.le_refl _) _
  have HP0 : Hid (Blk (w.alloc (.cells #[.int .i64 d0, .slice A0 n0 c0, .int .i64 e0, .slice E0 m0 k0] 43)) w.heap.size 43 #[.int .i64 d0, .slice A0 n0 c0, .int .i64 e0, .slice E0 m0 k0]) := Blk.new w _ _
  have H0 := hid ((t0.below HB.out).more HB.out.size)
  have G0 := hid ((u0.below HB.out).more HB.out.size)
  have HE : Hid ((whoB d0 l0 e0 r0) = (rightB d0 l0 && pureB e0 r0)) := by show _ = _; rfl
  clear t0 u0
  go_enter Try.func115, Try.ntmps115
  go_wp2_with (refine wp_list_told 9 9 nil_ rfl (by decide) ?_)
  generalize w.alloc (.cells #[.int .i64 d0, .slice A0 n0 c0, .int .i64 e0, .slice E0 m0 k0] 43) = wa at *
  have HF : Hid (∀ W, But nil_ wa W → (W.cell? ⟨w.heap.size, 0, none⟩ = some (.int .i64 d0) ∧ W.cell? ⟨w.heap.size, 1, none⟩ = some (.slice A0 n0 c0) ∧ W.cell? ⟨w.heap.size, 2, none⟩ = some (.int .i64 e0) ∧ W.cell? ⟨w.heap.size, 3, none⟩ = some (.slice E0 m0 k0))) := fun W hW => (hW.blk HP0.out (fun h => h)).cells4
  try simp only [List.take_succ_cons, List.take_zero, List.drop_succ_cons, List.drop_zero]
  have HA := hid (fun W (hW : But nil_ wa W) => right51 W d0 A0 n0 c0 l0 (H0.out.since_ hW))
  have HL := hid (fun W (hW : But nil_ wa W) => pure113 W e0 E0 m0 k0 r0 (G0.out.since_ hW))
  generalize rightB d0 l0 = q at *
  generalize pureB e0 r0 = p at *
  repeat (refine told_val (v := ?_) (fun _ => rfl) (fun vs W hW => ?_) ?_; rotate_left; (focus (have hf := HF.out W hW; clear hW; go_simp; exact loose_val)); simp only [Act.put, List.setIfInBounds_toArray, List.set_cons_zero, List.set_cons_succ, List.nil_append, List.cons_append, Nat.reduceAdd, Leaves.at])
  refine told_val (v := .bool q) (fun _ => rfl) (fun vs W hW => ?_) ?_
  · go_simp
    exact loose_call (HA.out W hW)
  simp only [Act.put, List.setIfInBounds_toArray, List.set_cons_zero, List.set_cons_succ, List.nil_append, List.cons_append, Nat.reduceAdd, Leaves.at]
  repeat (refine told_val (v := ?_) (fun _ => rfl) (fun vs W hW => ?_) ?_; rotate_left; (focus (have hf := HF.out W hW; clear hW; go_simp; exact loose_val)); simp only [Act.put, List.setIfInBounds_toArray, List.set_cons_zero, List.set_cons_succ, List.nil_append, List.cons_append, Nat.reduceAdd, Leaves.at])
  repeat (refine told_maybe (b := q) (v := ?_) (fun _ => Bool.casesOn q rfl rfl) (fun hb vs W hW => ?_) ?_; rotate_left; (focus (have hf := HF.out W hW; clear hW; (try simp only [hb, cond_true, cond_false]); go_simp; exact loose_val)); simp only [Act.put, List.setIfInBounds_toArray, List.set_cons_zero, List.set_cons_succ, List.nil_append, List.cons_append, Nat.reduceAdd, Leaves.at])
  refine told_maybe (b := q) (v := .bool p) (fun _ => Bool.casesOn q rfl rfl) (fun hb vs W hW => ?_) ?_
  · try simp only [hb, cond_true, cond_false]
    go_simp
    exact loose_call (HL.out W hW)
  simp only [Act.put, List.setIfInBounds_toArray, List.set_cons_zero, List.set_cons_succ, List.nil_append, List.cons_append, Nat.reduceAdd, Leaves.at]
  refine told_val (v := .bool (q && p)) (fun _ => rfl) (fun vs W hW => ?_) ?_
  · cases q <;> cases p <;> (go_simp; exact loose_val)
  simp only [Act.put, List.setIfInBounds_toArray, List.set_cons_zero, List.set_cons_succ, List.nil_append, List.cons_append, Nat.reduceAdd, Leaves.at]
  repeat (refine told_val (v := ?_) (fun _ => rfl) (fun vs W hW => ?_) ?_; rotate_left; (focus (have hf := HF.out W hW; clear hW; go_simp; exact loose_val)); simp only [Act.put, List.setIfInBounds_toArray, List.set_cons_zero, List.set_cons_succ, List.nil_append, List.cons_append, Nat.reduceAdd, Leaves.at])
  refine told_nil ?_
  intro vs W hW hok hap
  clear hap
  dsimp only
  have HB2 := hid (HB.out.trans (since_below hW HB.out.size))
  clear hok hW
  go_wp2_with fail
  go_ret
  exact ⟨by rw [HE.out]; rfl, HB2.out⟩

set_option maxHeartbeats 4000000 in
set_option maxRecDepth 100000 in
theorem f58 (w : World) (d0 : Int) (A0 : Option Addr) (n0 c0 : Nat) (l0 : List (Int × Int)) (e0 : Int) (E0 : Option Addr) (m0 k0 : Nat) (r0 : List (Int × Int)) (d1 : Int) (A1 : Option Addr) (n1 c1 : Nat) (l1 : List (Int × Int)) (t0 : CatsAt w w.heap.size A0 n0 c0 l0) (z0 : n0 ≤ 67108864) (u0 : CatsAt w w.heap.size E0 m0 k0 r0) (y0 : m0 ≤ 67108864) (t1 : CatsAt w w.heap.size A1 n1 c1 l1) (z1 : n1 ≤ 67108864) :
    Calls Try.prog 58 #[.agg #[.int .i64 d0, .slice A0 n0 c0, .int .i64 e0, .slice E0 m0 k0], .agg #[.int .i64 d1, .slice A1 n1 c1]] w fun e w' => e = .returned (.bool (makesB d0 l0 e0 r0 d1 l1)) ∧ Below w.heap.size w w' := by
  have mixed : Try.prog.follows .mixedOrders = true := by kernel_rfl
  obtain ⟨q0, q1, q2⟩ := two_blk w #[.int .i64 d0, .slice A0 n0 c0, .int .i64 e0, .slice E0 m0 k0] #[.int .i64 d1, .slice A1 n1 c1] 43 26
  have HB := hid q0
  have HP0 := hid q1
  have HP1 := hid q2
  have H0 := hid ((t0.below q0).more q0.size)
  have G0 := hid ((u0.below q0).more q0.size)
  have H1 := hid ((t1.below q0).more q0.size)
  have HE : Hid ((makesB d0 l0 e0 r0 d1 l1) = (pureB d1 l1 && risesP [(d0, l0), (d1, l1), (e0, r0)])) := by show _ = _; unfold makesB; simp [risesP]
  clear t0 u0 t1 q0 q1 q2
  go_enter Try.func58, Try.ntmps58
  go_wp2_with (refine wp_list_told 12 12 nil_ rfl (by decide) ?_)
  generalize (w.alloc (.cells #[.int .i64 d0, .slice A0 n0 c0, .int .i64 e0, .slice E0 m0 k0] 43)).alloc (.cells #[.int .i64 d1, .slice A1 n1 c1] 26) = wa at *
  have HF : Hid (∀ W, But nil_ wa W → (W.cell? ⟨w.heap.size, 0, none⟩ = some (.int .i64 d0) ∧ W.cell? ⟨w.heap.size, 1, none⟩ = some (.slice A0 n0 c0) ∧ W.cell? ⟨w.heap.size, 2, none⟩ = some (.int .i64 e0) ∧ W.cell? ⟨w.heap.size, 3, none⟩ = some (.slice E0 m0 k0)) ∧ (W.cell? ⟨w.heap.size + 1, 0, none⟩ = some (.int .i64 d1) ∧ W.cell? ⟨w.heap.size + 1, 1, none⟩ = some (.slice A1 n1 c1))) := fun W hW => ⟨(hW.blk HP0.out (fun h => h)).cells4, (hW.blk HP1.out (fun h => h)).cells2⟩
  try simp only [List.take_succ_cons, List.take_zero, List.drop_succ_cons, List.drop_zero]
  have HPU := hid (fun W (hW : But nil_ wa W) => pure113 W d1 A1 n1 c1 l1 (H1.out.since_ hW))
  generalize pureB d1 l1 = q at *
  repeat (refine told_val (v := ?_) (fun _ => rfl) (fun vs W hW => ?_) ?_; rotate_left; (focus (have hf := HF.out W hW; clear hW; go_simp; exact loose_val)); simp only [Act.put, List.setIfInBounds_toArray, List.set_cons_zero, List.set_cons_succ, List.nil_append, List.cons_append, Nat.reduceAdd, Leaves.at])
  refine told_val (v := .bool q) (fun _ => rfl) (fun vs W hW => ?_) ?_
  · go_simp
    exact loose_call (HPU.out W hW)
  simp only [Act.put, List.setIfInBounds_toArray, List.set_cons_zero, List.set_cons_succ, List.nil_append, List.cons_append, Nat.reduceAdd, Leaves.at]
  repeat (refine told_val (v := ?_) (fun _ => rfl) (fun vs W hW => ?_) ?_; rotate_left; (focus (have hf := HF.out W hW; clear hW; go_simp; exact loose_val)); simp only [Act.put, List.setIfInBounds_toArray, List.set_cons_zero, List.set_cons_succ, List.nil_append, List.cons_append, Nat.reduceAdd, Leaves.at])
  cases q with
  | false =>
    repeat (first | (refine told_off (fun _ => rfl) ?_; simp only [Act.put, List.setIfInBounds_toArray, List.set_cons_zero, List.set_cons_succ, List.nil_append, List.cons_append, Nat.reduceAdd, Leaves.at]) | (refine told_val (v := ?_) (fun _ => rfl) (fun vs W hW => ?_) ?_; rotate_left; (focus (have hf := HF.out W hW; clear hW; go_simp; exact loose_val)); simp only [Act.put, List.setIfInBounds_toArray, List.set_cons_zero, List.set_cons_succ, List.nil_append, List.cons_append, Nat.reduceAdd, Leaves.at]))
    refine told_nil ?_
    intro vs W hW hok hap
    clear hap
    dsimp only
    have HB2 := hid (HB.out.trans (since_below hW HB.out.size))
    clear hok hW
    go_wp2_with fail
    go_ret
    exact ⟨by rw [HE.out]; rfl, HB2.out⟩
  | true =>
    repeat (refine told_val (v := ?_) (fun _ => rfl) (fun vs W hW => ?_) ?_; rotate_left; (focus (have hf := HF.out W hW; clear hW; go_simp; exact loose_val)); simp only [Act.put, List.setIfInBounds_toArray, List.set_cons_zero, List.set_cons_succ, List.nil_append, List.cons_append, Nat.reduceAdd, Leaves.at])
    refine told_rel (LabsR [(d0, l0), (d1, l1), (e0, r0)]) LabsR.stable (fun _ => rfl) (fun vs W hW hd => ?_) ?_
    · clear hd
      have hf := HF.out W hW
      have hmem := hid (List.forall_mem_cons.2 ⟨H0.out.since_ hW, List.forall_mem_cons.2 ⟨H1.out.since_ hW, List.forall_mem_cons.2 ⟨G0.out.since_ hW, fun _ h => nomatch h⟩⟩⟩ : ∀ l ∈ [(⟨d0, A0, n0, c0, l0⟩ : LabV), (⟨d1, A1, n1, c1, l1⟩ : LabV), (⟨e0, E0, m0, k0, r0⟩ : LabV)], l.at_ W)
      clear hW
      go_simp
      exact loose_labs _ hmem.out
    simp only [Act.put, List.setIfInBounds_toArray, List.set_cons_zero, List.set_cons_succ, List.nil_append, List.cons_append, Nat.reduceAdd, Leaves.at]
    refine told_val' (v := .bool (risesP [(d0, l0), (d1, l1), (e0, r0)])) (fun _ => rfl) (fun vs W hW hd => ?_) ?_
    · have hl := hd ⟨8, .data⟩ (by simp) rfl _ rfl (fun h => by cases h)
      have hr := hid (rises_R hl (by simp) (by simp))
      clear hd hl
      go_simp
      exact loose_call hr.out
    simp only [Act.put, List.setIfInBounds_toArray, List.set_cons_zero, List.set_cons_succ, List.nil_append, List.cons_append, Nat.reduceAdd, Leaves.at]
    repeat (refine told_val (v := ?_) (fun _ => rfl) (fun vs W hW => ?_) ?_; rotate_left; (focus (have hf := HF.out W hW; clear hW; go_simp; exact loose_val)); simp only [Act.put, List.setIfInBounds_toArray, List.set_cons_zero, List.set_cons_succ, List.nil_append, List.cons_append, Nat.reduceAdd, Leaves.at])
    refine told_nil ?_
    intro vs W hW hok hap
    clear hap
    dsimp only
    have HB2 := hid (HB.out.trans (since_below hW HB.out.size))
    clear hok hW
    go_wp2_with fail
    go_ret
    exact ⟨by rw [HE.out]; rfl, HB2.out⟩

set_option maxHeartbeats 4000000 in
set_option maxRecDepth 100000 in
theorem f59 (w : World) (d0 : Int) (A0 : Option Addr) (n0 c0 : Nat) (l0 : List (Int × Int)) (d1 : Int) (A1 : Option Addr) (n1 c1 : Nat) (l1 : List (Int × Int)) (d2 : Int) (A2 : Option Addr) (n2 c2 : Nat) (l2 : List (Int × Int)) (t0 : CatsAt w w.heap.size A0 n0 c0 l0) (z0 : n0 ≤ 67108864) (t1 : CatsAt w w.heap.size A1 n1 c1 l1) (z1 : n1 ≤ 67108864) (t2 : CatsAt w w.heap.size A2 n2 c2 l2) (z2 : n2 ≤ 67108864) :
    Calls Try.prog 59 #[.agg #[.int .i64 d0, .slice A0 n0 c0], .agg #[.int .i64 d1, .slice A1 n1 c1], .agg #[.int .i64 d2, .slice A2 n2 c2]] w fun e w' => e = .returned (.bool (makesB d0 l0 d1 l1 d2 l2)) ∧ Below w.heap.size w w' := by
  have mixed : Try.prog.follows .mixedOrders = true := by kernel_rfl
  obtain ⟨q0, q1, q2, q3⟩ := three_blk w #[.int .i64 d0, .slice A0 n0 c0] #[.int .i64 d1, .slice A1 n1 c1] #[.int .i64 d2, .slice A2 n2 c2] 26 26 26
  have HB := hid q0
  have HP0 := hid q1
  have HP1 := hid q2
  have HP2 := hid q3
  have H0 := hid ((t0.below q0).more q0.size)
  have H1 := hid ((t1.below q0).more q0.size)
  have H2 := hid ((t2.below q0).more q0.size)
  have HE : Hid ((makesB d0 l0 d1 l1 d2 l2) = (((rightB d2 l2 && pureD d2 l2) && leqB d0 l0 d2 l2) && leqB d2 l2 d1 l1)) := by show _ = _; unfold makesB; rw [← pure_both]; simp [Bool.and_assoc]
  clear t0 t1 t2 q0 q1 q2 q3
  go_enter Try.func59, Try.ntmps59
  go_wp2_with (refine wp_list_told 17 17 nil_ rfl (by decide) ?_)
  generalize ((w.alloc (.cells #[.int .i64 d0, .slice A0 n0 c0] 26)).alloc (.cells #[.int .i64 d1, .slice A1 n1 c1] 26)).alloc (.cells #[.int .i64 d2, .slice A2 n2 c2] 26) = wa at *
  have HF : Hid (∀ W, But nil_ wa W → (W.cell? ⟨w.heap.size, 0, none⟩ = some (.int .i64 d0) ∧ W.cell? ⟨w.heap.size, 1, none⟩ = some (.slice A0 n0 c0)) ∧ (W.cell? ⟨w.heap.size + 1, 0, none⟩ = some (.int .i64 d1) ∧ W.cell? ⟨w.heap.size + 1, 1, none⟩ = some (.slice A1 n1 c1)) ∧ (W.cell? ⟨w.heap.size + 1 + 1, 0, none⟩ = some (.int .i64 d2) ∧ W.cell? ⟨w.heap.size + 1 + 1, 1, none⟩ = some (.slice A2 n2 c2))) := fun W hW => ⟨(hW.blk HP0.out (fun h => h)).cells2, (hW.blk HP1.out (fun h => h)).cells2, (hW.blk HP2.out (fun h => h)).cells2⟩
  try simp only [List.take_succ_cons, List.take_zero, List.drop_succ_cons, List.drop_zero]
  have HA := hid (fun W (hW : But nil_ wa W) => right52 W d2 A2 n2 c2 l2 (H2.out.since_ hW))
  have HU := hid (fun W (hW : But nil_ wa W) => pure114 W d2 A2 n2 c2 l2 (H2.out.since_ hW))
  have HL := hid (fun W (hW : But nil_ wa W) => leq41_b W d0 d2 A0 A2 n0 c0 n2 c2 l0 l2 (H0.out.since_ hW) (H2.out.since_ hW) (by omega))
  have HM := hid (fun W (hW : But nil_ wa W) => leq41_b W d2 d1 A2 A1 n2 c2 n1 c1 l2 l1 (H2.out.since_ hW) (H1.out.since_ hW) (by omega))
  generalize rightB d2 l2 = q1 at *
  generalize pureD d2 l2 = q2 at *
  generalize leqB d0 l0 d2 l2 = q3 at *
  generalize leqB d2 l2 d1 l1 = q4 at *
  repeat (refine told_val (v := ?_) (fun _ => rfl) (fun vs W hW => ?_) ?_; rotate_left; (focus (have hf := HF.out W hW; clear hW; go_simp; exact loose_val)); simp only [Act.put, List.setIfInBounds_toArray, List.set_cons_zero, List.set_cons_succ, List.nil_append, List.cons_append, Nat.reduceAdd, Leaves.at])
  refine told_val (v := .bool q1) (fun _ => rfl) (fun vs W hW => ?_) ?_
  · go_simp
    exact loose_call (HA.out W hW)
  simp only [Act.put, List.setIfInBounds_toArray, List.set_cons_zero, List.set_cons_succ, List.nil_append, List.cons_append, Nat.reduceAdd, Leaves.at]
  repeat (refine told_val (v := ?_) (fun _ => rfl) (fun vs W hW => ?_) ?_; rotate_left; (focus (have hf := HF.out W hW; clear hW; go_simp; exact loose_val)); simp only [Act.put, List.setIfInBounds_toArray, List.set_cons_zero, List.set_cons_succ, List.nil_append, List.cons_append, Nat.reduceAdd, Leaves.at])
  repeat (refine told_maybe (b := q1) (v := ?_) (fun _ => Bool.casesOn q1 rfl rfl) (fun hb vs W hW => ?_) ?_; rotate_left; (focus (have hf := HF.out W hW; clear hW; (try simp only [hb, cond_true, cond_false]); go_simp; exact loose_val)); simp only [Act.put, List.setIfInBounds_toArray, List.set_cons_zero, List.set_cons_succ, List.nil_append, List.cons_append, Nat.reduceAdd, Leaves.at])
  refine told_maybe (b := q1) (v := .bool q2) (fun _ => Bool.casesOn q1 rfl rfl) (fun hb vs W hW => ?_) ?_
  · try simp only [hb, cond_true, cond_false]
    go_simp
    exact loose_call (HU.out W hW)
  simp only [Act.put, List.setIfInBounds_toArray, List.set_cons_zero, List.set_cons_succ, List.nil_append, List.cons_append, Nat.reduceAdd, Leaves.at]
  refine told_val (v := .bool (q1 && q2)) (fun _ => rfl) (fun vs W hW => ?_) ?_
  · cases q1 <;> cases q2 <;> (go_simp; exact loose_val)
  simp only [Act.put, List.setIfInBounds_toArray, List.set_cons_zero, List.set_cons_succ, List.nil_append, List.cons_append, Nat.reduceAdd, Leaves.at]
  generalize (q1 && q2) = s1 at *
  repeat (refine told_val (v := ?_) (fun _ => rfl) (fun vs W hW => ?_) ?_; rotate_left; (focus (have hf := HF.out W hW; clear hW; go_simp; exact loose_val)); simp only [Act.put, List.setIfInBounds_toArray, List.set_cons_zero, List.set_cons_succ, List.nil_append, List.cons_append, Nat.reduceAdd, Leaves.at])
  repeat (refine told_maybe (b := s1) (v := ?_) (fun _ => Bool.casesOn s1 rfl rfl) (fun hb vs W hW => ?_) ?_; rotate_left; (focus (have hf := HF.out W hW; clear hW; (try simp only [hb, cond_true, cond_false]); go_simp; exact loose_val)); simp only [Act.put, List.setIfInBounds_toArray, List.set_cons_zero, List.set_cons_succ, List.nil_append, List.cons_append, Nat.reduceAdd, Leaves.at])
  refine told_maybe (b := s1) (v := .bool q3) (fun _ => Bool.casesOn s1 rfl rfl) (fun hb vs W hW => ?_) ?_
  · try simp only [hb, cond_true, cond_false]
    go_simp
    exact loose_call (HL.out W hW)
  simp only [Act.put, List.setIfInBounds_toArray, List.set_cons_zero, List.set_cons_succ, List.nil_append, List.cons_append, Nat.reduceAdd, Leaves.at]
  refine told_val (v := .bool (s1 && q3)) (fun _ => rfl) (fun vs W hW => ?_) ?_
  · cases s1 <;> cases q3 <;> (go_simp; exact loose_val)
  simp only [Act.put, List.setIfInBounds_toArray, List.set_cons_zero, List.set_cons_succ, List.nil_append, List.cons_append, Nat.reduceAdd, Leaves.at]
  generalize (s1 && q3) = s2 at *
  repeat (refine told_val (v := ?_) (fun _ => rfl) (fun vs W hW => ?_) ?_; rotate_left; (focus (have hf := HF.out W hW; clear hW; go_simp; exact loose_val)); simp only [Act.put, List.setIfInBounds_toArray, List.set_cons_zero, List.set_cons_succ, List.nil_append, List.cons_append, Nat.reduceAdd, Leaves.at])
  repeat (refine told_maybe (b := s2) (v := ?_) (fun _ => Bool.casesOn s2 rfl rfl) (fun hb vs W hW => ?_) ?_; rotate_left; (focus (have hf := HF.out W hW; clear hW; (try simp only [hb, cond_true, cond_false]); go_simp; exact loose_val)); simp only [Act.put, List.setIfInBounds_toArray, List.set_cons_zero, List.set_cons_succ, List.nil_append, List.cons_append, Nat.reduceAdd, Leaves.at])
  refine told_maybe (b := s2) (v := .bool q4) (fun _ => Bool.casesOn s2 rfl rfl) (fun hb vs W hW => ?_) ?_
  · try simp only [hb, cond_true, cond_false]
    go_simp
    exact loose_call (HM.out W hW)
  simp only [Act.put, List.setIfInBounds_toArray, List.set_cons_zero, List.set_cons_succ, List.nil_append, List.cons_append, Nat.reduceAdd, Leaves.at]
  refine told_val (v := .bool (s2 && q4)) (fun _ => rfl) (fun vs W hW => ?_) ?_
  · cases s2 <;> cases q4 <;> (go_simp; exact loose_val)
  simp only [Act.put, List.setIfInBounds_toArray, List.set_cons_zero, List.set_cons_succ, List.nil_append, List.cons_append, Nat.reduceAdd, Leaves.at]
  repeat (refine told_val (v := ?_) (fun _ => rfl) (fun vs W hW => ?_) ?_; rotate_left; (focus (have hf := HF.out W hW; clear hW; go_simp; exact loose_val)); simp only [Act.put, List.setIfInBounds_toArray, List.set_cons_zero, List.set_cons_succ, List.nil_append, List.cons_append, Nat.reduceAdd, Leaves.at])
  refine told_nil ?_
  intro vs W hW hok hap
  clear hap
  dsimp only
  have HB2 := hid (HB.out.trans (since_below hW HB.out.size))
  clear hok hW
  go_wp2_with fail
  go_ret
  exact ⟨by rw [HE.out]; rfl, HB2.out⟩

set_option maxHeartbeats 4000000 in
set_option maxRecDepth 100000 in
theorem f62 (w : World) (d0 : Int) (A0 : Option Addr) (n0 c0 : Nat) (l0 : List (Int × Int)) (e0 : Int) (E0 : Option Addr) (m0 k0 : Nat) (r0 : List (Int × Int)) (d1 : Int) (A1 : Option Addr) (n1 c1 : Nat) (l1 : List (Int × Int)) (t0 : CatsAt w w.heap.size A0 n0 c0 l0) (z0 : n0 ≤ 67108864) (u0 : CatsAt w w.heap.size E0 m0 k0 r0) (y0 : m0 ≤ 67108864) (t1 : CatsAt w w.heap.size A1 n1 c1 l1) (z1 : n1 ≤ 67108864) :
    Calls Try.prog 62 #[.agg #[.int .i64 d0, .slice A0 n0 c0, .int .i64 e0, .slice E0 m0 k0], .agg #[.int .i64 d1, .slice A1 n1 c1]] w fun e w' => e = .returned (.bool (taintsB d0 l0 e0 r0 d1 l1)) ∧ Below w.heap.size w w' := by
  have mixed : Try.prog.follows .mixedOrders = true := by kernel_rfl
  obtain ⟨q0, q1, q2⟩ := two_blk w #[.int .i64 d0, .slice A0 n0 c0, .int .i64 e0, .slice E0 m0 k0] #[.int .i64 d1, .slice A1 n1 c1] 43 26
  have HB := hid q0
  have HP0 := hid q1
  have HP1 := hid q2
  have H0 := hid ((t0.below q0).more q0.size)
  have G0 := hid ((u0.below q0).more q0.size)
  have H1 := hid ((t1.below q0).more q0.size)
  have HE : Hid ((taintsB d0 l0 e0 r0 d1 l1) = (rightB d1 l1 && risesP [(d0, l0), (d1, l1), (e0, r0)])) := by show _ = _; unfold taintsB; simp [risesP]
  clear t0 u0 t1 q0 q1 q2
  go_enter Try.func62, Try.ntmps62
  go_wp2_with (refine wp_list_told 12 12 nil_ rfl (by decide) ?_)
  generalize (w.alloc (.cells #[.int .i64 d0, .slice A0 n0 c0, .int .i64 e0, .slice E0 m0 k0] 43)).alloc (.cells #[.int .i64 d1, .slice A1 n1 c1] 26) = wa at *
  have HF : Hid (∀ W, But nil_ wa W → (W.cell? ⟨w.heap.size, 0, none⟩ = some (.int .i64 d0) ∧ W.cell? ⟨w.heap.size, 1, none⟩ = some (.slice A0 n0 c0) ∧ W.cell? ⟨w.heap.size, 2, none⟩ = some (.int .i64 e0) ∧ W.cell? ⟨w.heap.size, 3, none⟩ = some (.slice E0 m0 k0)) ∧ (W.cell? ⟨w.heap.size + 1, 0, none⟩ = some (.int .i64 d1) ∧ W.cell? ⟨w.heap.size + 1, 1, none⟩ = some (.slice A1 n1 c1))) := fun W hW => ⟨(hW.blk HP0.out (fun h => h)).cells4, (hW.blk HP1.out (fun h => h)).cells2⟩
  try simp only [List.take_succ_cons, List.take_zero, List.drop_succ_cons, List.drop_zero]
  have HPU := hid (fun W (hW : But nil_ wa W) => right51 W d1 A1 n1 c1 l1 (H1.out.since_ hW))
  generalize rightB d1 l1 = q at *
  repeat (refine told_val (v := ?_) (fun _ => rfl) (fun vs W hW => ?_) ?_; rotate_left; (focus (have hf := HF.out W hW; clear hW; go_simp; exact loose_val)); simp only [Act.put, List.setIfInBounds_toArray, List.set_cons_zero, List.set_cons_succ, List.nil_append, List.cons_append, Nat.reduceAdd, Leaves.at])
  refine told_val (v := .bool q) (fun _ => rfl) (fun vs W hW => ?_) ?_
  · go_simp
    exact loose_call (HPU.out W hW)
  simp only [Act.put, List.setIfInBounds_toArray, List.set_cons_zero, List.set_cons_succ, List.nil_append, List.cons_append, Nat.reduceAdd, Leaves.at]
  repeat (refine told_val (v := ?_) (fun _ => rfl) (fun vs W hW => ?_) ?_; rotate_left; (focus (have hf := HF.out W hW; clear hW; go_simp; exact loose_val)); simp only [Act.put, List.setIfInBounds_toArray, List.set_cons_zero, List.set_cons_succ, List.nil_append, List.cons_append, Nat.reduceAdd, Leaves.at])
  cases q with
  | false =>
    repeat (first | (refine told_off (fun _ => rfl) ?_; simp only [Act.put, List.setIfInBounds_toArray, List.set_cons_zero, List.set_cons_succ, List.nil_append, List.cons_append, Nat.reduceAdd, Leaves.at]) | (refine told_val (v := ?_) (fun _ => rfl) (fun vs W hW => ?_) ?_; rotate_left; (focus (have hf := HF.out W hW; clear hW; go_simp; exact loose_val)); simp only [Act.put, List.setIfInBounds_toArray, List.set_cons_zero, List.set_cons_succ, List.nil_append, List.cons_append, Nat.reduceAdd, Leaves.at]))
    refine told_nil ?_
    intro vs W hW hok hap
    clear hap
    dsimp only
    have HB2 := hid (HB.out.trans (since_below hW HB.out.size))
    clear hok hW
    go_wp2_with fail
    go_ret
    exact ⟨by rw [HE.out]; rfl, HB2.out⟩
  | true =>
    repeat (refine told_val (v := ?_) (fun _ => rfl) (fun vs W hW => ?_) ?_; rotate_left; (focus (have hf := HF.out W hW; clear hW; go_simp; exact loose_val)); simp only [Act.put, List.setIfInBounds_toArray, List.set_cons_zero, List.set_cons_succ, List.nil_append, List.cons_append, Nat.reduceAdd, Leaves.at])
    refine told_rel (LabsR [(d0, l0), (d1, l1), (e0, r0)]) LabsR.stable (fun _ => rfl) (fun vs W hW hd => ?_) ?_
    · clear hd
      have hf := HF.out W hW
      have hmem := hid (List.forall_mem_cons.2 ⟨H0.out.since_ hW, List.forall_mem_cons.2 ⟨H1.out.since_ hW, List.forall_mem_cons.2 ⟨G0.out.since_ hW, fun _ h => nomatch h⟩⟩⟩ : ∀ l ∈ [(⟨d0, A0, n0, c0, l0⟩ : LabV), (⟨d1, A1, n1, c1, l1⟩ : LabV), (⟨e0, E0, m0, k0, r0⟩ : LabV)], l.at_ W)
      clear hW
      go_simp
      exact loose_labs _ hmem.out
    simp only [Act.put, List.setIfInBounds_toArray, List.set_cons_zero, List.set_cons_succ, List.nil_append, List.cons_append, Nat.reduceAdd, Leaves.at]
    refine told_val' (v := .bool (risesP [(d0, l0), (d1, l1), (e0, r0)])) (fun _ => rfl) (fun vs W hW hd => ?_) ?_
    · have hl := hd ⟨8, .data⟩ (by simp) rfl _ rfl (fun h => by cases h)
      have hr := hid (rises_R hl (by simp) (by simp))
      clear hd hl
      go_simp
      exact loose_call hr.out
    simp only [Act.put, List.setIfInBounds_toArray, List.set_cons_zero, List.set_cons_succ, List.nil_append, List.cons_append, Nat.reduceAdd, Leaves.at]
    repeat (refine told_val (v := ?_) (fun _ => rfl) (fun vs W hW => ?_) ?_; rotate_left; (focus (have hf := HF.out W hW; clear hW; go_simp; exact loose_val)); simp only [Act.put, List.setIfInBounds_toArray, List.set_cons_zero, List.set_cons_succ, List.nil_append, List.cons_append, Nat.reduceAdd, Leaves.at])
    refine told_nil ?_
    intro vs W hW hok hap
    clear hap
    dsimp only
    have HB2 := hid (HB.out.trans (since_below hW HB.out.size))
    clear hok hW
    go_wp2_with fail
    go_ret
    exact ⟨by rw [HE.out]; rfl, HB2.out⟩

set_option maxHeartbeats 4000000 in
set_option maxRecDepth 100000 in
theorem f63 (w : World) (d0 : Int) (A0 : Option Addr) (n0 c0 : Nat) (l0 : List (Int × Int)) (d1 : Int) (A1 : Option Addr) (n1 c1 : Nat) (l1 : List (Int × Int)) (d2 : Int) (A2 : Option Addr) (n2 c2 : Nat) (l2 : List (Int × Int)) (t0 : CatsAt w w.heap.size A0 n0 c0 l0) (z0 : n0 ≤ 67108864) (t1 : CatsAt w w.heap.size A1 n1 c1 l1) (z1 : n1 ≤ 67108864) (t2 : CatsAt w w.heap.size A2 n2 c2 l2) (z2 : n2 ≤ 67108864) :
    Calls Try.prog 63 #[.agg #[.int .i64 d0, .slice A0 n0 c0], .agg #[.int .i64 d1, .slice A1 n1 c1], .agg #[.int .i64 d2, .slice A2 n2 c2]] w fun e w' => e = .returned (.bool (taintsB d0 l0 d1 l1 d2 l2)) ∧ Below w.heap.size w w' := by
  have mixed : Try.prog.follows .mixedOrders = true := by kernel_rfl
  obtain ⟨q0, q1, q2, q3⟩ := three_blk w #[.int .i64 d0, .slice A0 n0 c0] #[.int .i64 d1, .slice A1 n1 c1] #[.int .i64 d2, .slice A2 n2 c2] 26 26 26
  have HB := hid q0
  have HP0 := hid q1
  have HP1 := hid q2
  have HP2 := hid q3
  have H0 := hid ((t0.below q0).more q0.size)
  have H1 := hid ((t1.below q0).more q0.size)
  have H2 := hid ((t2.below q0).more q0.size)
  have HE : Hid ((taintsB d0 l0 d1 l1 d2 l2) = ((rightB d2 l2 && leqB d0 l0 d2 l2) && leqB d2 l2 d1 l1)) := by show _ = _; unfold taintsB; simp [Bool.and_assoc]
  clear t0 t1 t2 q0 q1 q2 q3
  go_enter Try.func63, Try.ntmps63
  go_wp2_with (refine wp_list_told 13 13 nil_ rfl (by decide) ?_)
  generalize ((w.alloc (.cells #[.int .i64 d0, .slice A0 n0 c0] 26)).alloc (.cells #[.int .i64 d1, .slice A1 n1 c1] 26)).alloc (.cells #[.int .i64 d2, .slice A2 n2 c2] 26) = wa at *
  have HF : Hid (∀ W, But nil_ wa W → (W.cell? ⟨w.heap.size, 0, none⟩ = some (.int .i64 d0) ∧ W.cell? ⟨w.heap.size, 1, none⟩ = some (.slice A0 n0 c0)) ∧ (W.cell? ⟨w.heap.size + 1, 0, none⟩ = some (.int .i64 d1) ∧ W.cell? ⟨w.heap.size + 1, 1, none⟩ = some (.slice A1 n1 c1)) ∧ (W.cell? ⟨w.heap.size + 1 + 1, 0, none⟩ = some (.int .i64 d2) ∧ W.cell? ⟨w.heap.size + 1 + 1, 1, none⟩ = some (.slice A2 n2 c2))) := fun W hW => ⟨(hW.blk HP0.out (fun h => h)).cells2, (hW.blk HP1.out (fun h => h)).cells2, (hW.blk HP2.out (fun h => h)).cells2⟩
  try simp only [List.take_succ_cons, List.take_zero, List.drop_succ_cons, List.drop_zero]
  have HA := hid (fun W (hW : But nil_ wa W) => right52 W d2 A2 n2 c2 l2 (H2.out.since_ hW))
  have HL := hid (fun W (hW : But nil_ wa W) => leq41_b W d0 d2 A0 A2 n0 c0 n2 c2 l0 l2 (H0.out.since_ hW) (H2.out.since_ hW) (by omega))
  have HM := hid (fun W (hW : But nil_ wa W) => leq41_b W d2 d1 A2 A1 n2 c2 n1 c1 l2 l1 (H2.out.since_ hW) (H1.out.since_ hW) (by omega))
  generalize rightB d2 l2 = q1 at *
  generalize leqB d0 l0 d2 l2 = q3 at *
  generalize leqB d2 l2 d1 l1 = q4 at *
  repeat (refine told_val (v := ?_) (fun _ => rfl) (fun vs W hW => ?_) ?_; rotate_left; (focus (have hf := HF.out W hW; clear hW; go_simp; exact loose_val)); simp only [Act.put, List.setIfInBounds_toArray, List.set_cons_zero, List.set_cons_succ, List.nil_append, List.cons_append, Nat.reduceAdd, Leaves.at])
  refine told_val (v := .bool q1) (fun _ => rfl) (fun vs W hW => ?_) ?_
  · go_simp
    exact loose_call (HA.out W hW)
  simp only [Act.put, List.setIfInBounds_toArray, List.set_cons_zero, List.set_cons_succ, List.nil_append, List.cons_append, Nat.reduceAdd, Leaves.at]
  repeat (refine told_val (v := ?_) (fun _ => rfl) (fun vs W hW => ?_) ?_; rotate_left; (focus (have hf := HF.out W hW; clear hW; go_simp; exact loose_val)); simp only [Act.put, List.setIfInBounds_toArray, List.set_cons_zero, List.set_cons_succ, List.nil_append, List.cons_append, Nat.reduceAdd, Leaves.at])
  repeat (refine told_maybe (b := q1) (v := ?_) (fun _ => Bool.casesOn q1 rfl rfl) (fun hb vs W hW => ?_) ?_; rotate_left; (focus (have hf := HF.out W hW; clear hW; (try simp only [hb, cond_true, cond_false]); go_simp; exact loose_val)); simp only [Act.put, List.setIfInBounds_toArray, List.set_cons_zero, List.set_cons_succ, List.nil_append, List.cons_append, Nat.reduceAdd, Leaves.at])
  refine told_maybe (b := q1) (v := .bool q3) (fun _ => Bool.casesOn q1 rfl rfl) (fun hb vs W hW => ?_) ?_
  · try simp only [hb, cond_true, cond_false]
    go_simp
    exact loose_call (HL.out W hW)
  simp only [Act.put, List.setIfInBounds_toArray, List.set_cons_zero, List.set_cons_succ, List.nil_append, List.cons_append, Nat.reduceAdd, Leaves.at]
  refine told_val (v := .bool (q1 && q3)) (fun _ => rfl) (fun vs W hW => ?_) ?_
  · cases q1 <;> cases q3 <;> (go_simp; exact loose_val)
  simp only [Act.put, List.setIfInBounds_toArray, List.set_cons_zero, List.set_cons_succ, List.nil_append, List.cons_append, Nat.reduceAdd, Leaves.at]
  generalize (q1 && q3) = s2 at *
  repeat (refine told_val (v := ?_) (fun _ => rfl) (fun vs W hW => ?_) ?_; rotate_left; (focus (have hf := HF.out W hW; clear hW; go_simp; exact loose_val)); simp only [Act.put, List.setIfInBounds_toArray, List.set_cons_zero, List.set_cons_succ, List.nil_append, List.cons_append, Nat.reduceAdd, Leaves.at])
  repeat (refine told_maybe (b := s2) (v := ?_) (fun _ => Bool.casesOn s2 rfl rfl) (fun hb vs W hW => ?_) ?_; rotate_left; (focus (have hf := HF.out W hW; clear hW; (try simp only [hb, cond_true, cond_false]); go_simp; exact loose_val)); simp only [Act.put, List.setIfInBounds_toArray, List.set_cons_zero, List.set_cons_succ, List.nil_append, List.cons_append, Nat.reduceAdd, Leaves.at])
  refine told_maybe (b := s2) (v := .bool q4) (fun _ => Bool.casesOn s2 rfl rfl) (fun hb vs W hW => ?_) ?_
  · try simp only [hb, cond_true, cond_false]
    go_simp
    exact loose_call (HM.out W hW)
  simp only [Act.put, List.setIfInBounds_toArray, List.set_cons_zero, List.set_cons_succ, List.nil_append, List.cons_append, Nat.reduceAdd, Leaves.at]
  refine told_val (v := .bool (s2 && q4)) (fun _ => rfl) (fun vs W hW => ?_) ?_
  · cases s2 <;> cases q4 <;> (go_simp; exact loose_val)
  simp only [Act.put, List.setIfInBounds_toArray, List.set_cons_zero, List.set_cons_succ, List.nil_append, List.cons_append, Nat.reduceAdd, Leaves.at]
  repeat (refine told_val (v := ?_) (fun _ => rfl) (fun vs W hW => ?_) ?_; rotate_left; (focus (have hf := HF.out W hW; clear hW; go_simp; exact loose_val)); simp only [Act.put, List.setIfInBounds_toArray, List.set_cons_zero, List.set_cons_succ, List.nil_append, List.cons_append, Nat.reduceAdd, Leaves.at])
  refine told_nil ?_
  intro vs W hW hok hap
  clear hap
  dsimp only
  have HB2 := hid (HB.out.trans (since_below hW HB.out.size))
  clear hok hW
  go_wp2_with fail
  go_ret
  exact ⟨by rw [HE.out]; rfl, HB2.out⟩

end Go.Proofs.Ytndohmimcbmhdaa

/- The law's example of flow. -/
set_option linter.unusedVariables false
set_option linter.unusedSimpArgs false
namespace Go.Proofs.Ytndohmimcbmhdaa
open Go.RowKit Go.Sort

theorem cats_1 {W : World} {g : Nat} {i v : Int} (h : Blk W g 32 #[.int .u64 i, .int .i64 v]) (c : Nat) (h1 : 1 ≤ c) (h2 : c ≤ maxLen) : CatsAt W W.heap.size (some ⟨g, 0, none⟩) 1 c [(i, v)] :=
  ⟨rfl, h1, h2, fun _ => ⟨g, 0, rfl, h.lt, fun k x hx => by
    match k with
    | 0 =>
      simp only [List.getElem?_cons_zero, Option.some.injEq] at hx
      subst hx
      exact h.cells2
    | k + 1 => simp at hx⟩⟩

set_option maxHeartbeats 2000000 in
set_option maxRecDepth 100000 in
theorem at110 (w : World) (id lv : Int) : Calls Try.prog 110 #[.int .u64 id, .int .i64 lv] w fun e w' => RetLab 2 (formL 2 [(id, lv)]) w e w' := by
  obtain ⟨q1, q2, q3⟩ := two_blk w #[.int .i64 0, .slice none 0 0] #[.int .u64 id, .int .i64 lv] 26 32
  have HB := hid q1
  have HP1 := hid q2
  have HP2 := hid q3
  clear q1 q2 q3
  go_enter Try.func110, Try.ntmps110
  go_wp2_with fail
  generalize (w.alloc (.cells #[.int .i64 0, .slice none 0 0] 26)).alloc (.cells #[.int .u64 id, .int .i64 lv] 32) = wa at *
  refine (make34_l wa 2 _ 1 1 [(id, lv)] (cats_1 HP2.out 1 (Nat.le_refl _) (by unfold maxLen; omega)) (by omega)).mono ?_
  rintro e w1 ⟨v, rfl, ⟨A1, n1, c1, rfl, hT⟩, hb⟩
  have HK := HP1.out.below hb HP1.out.lt
  obtain ⟨⟨z0, z1⟩, z2, z3⟩ := label_zero HK
  have HT := hid hT
  have HKH := hid HK
  have HB2 := hid (HB.out.trans (hb.mono HB.out.size))
  have hlt := HP1.out.lt
  have hs := hb.size
  clear hb hT HK
  go_wp2_with fail
  refine bodyPost_ret (label_run (label_put HKH.out _ _) rfl _ rfl) rfl ?_
  obtain ⟨Wp, hwp, K1, BW⟩ := put1 HKH.out (.int .i64 2) (.slice A1 n1 c1)
  rw [hwp]
  exact ⟨_, rfl, ⟨A1, n1, c1, rfl, (HT.out.keep (Nat.le_refl _) BW fun g hg => by subst hg; exact bare26 HKH.out).more BW.size⟩, BW.done HB2.out (fun k hk => by subst hk; omega) HB2.out.size⟩

set_option maxHeartbeats 4000000 in
set_option maxRecDepth 100000 in
theorem alive53 (w : World) : Calls Try.prog 53 #[] w fun e w' => e = .returned (.bool true) ∧ Below w.heap.size w w' := by
  have mixed : Try.prog.follows .mixedOrders = true := by kernel_rfl
  go_enter Try.func53, Try.ntmps53
  go_wp2_with fail
  obtain ⟨q1, q2, q3⟩ := two_blk w #[.int .i64 2, .slice none 0 0] #[.int .i64 2, .slice none 0 0, .int .i64 2, .slice none 0 0] 26 43
  have HB := hid q1
  have HP1 := hid q2
  have HP2 := hid q3
  clear q1 q2 q3
  generalize (w.alloc (.cells #[.int .i64 2, .slice none 0 0] 26)).alloc (.cells #[.int .i64 2, .slice none 0 0, .int .i64 2, .slice none 0 0] 43) = wa at *
  refine (at110 wa 7 4).mono ?_
  rintro e w1 ⟨v, rfl, ⟨A1, n1, c1, rfl, hT1⟩, hb1⟩
  have HT1 := hid hT1
  have HB1 := hid hb1
  clear hT1 hb1
  go_wp2_with fail
  refine (at110 w1 7 4).mono ?_
  rintro e w2 ⟨v, rfl, ⟨A2, n2, c2, rfl, hT2⟩, hb2⟩
  have HT2 := hid hT2
  have HB2 := hid hb2
  clear hT2 hb2
  have R1 : readsB 2 [] 2 [] = true := by decide
  have W1 : writesB 2 [] 2 [] = true := by decide
  have R2 : readsB 2 (formL 2 [(7, 4)]) 2 [] = true := by decide
  have W2 : writesB 2 (formL 2 [(7, 4)]) 2 [] = false := by decide
  have R3 : readsB 2 [] 2 (formL 2 [(7, 4)]) = false := by decide
  have M1 : makesB 2 [] 2 [] 2 [] = true := by decide
  have M2 : makesB 2 (formL 2 [(7, 4)]) 2 (formL 2 [(7, 4)]) 2 [] = false := by decide
  have hF : (formL 2 [((7 : Int), (4 : Int))]).length ≤ 10 := by decide
  have R1 := hid R1
  have R2 := hid R2
  have R3 := hid R3
  have W1 := hid W1
  have W2 := hid W2
  have M1 := hid M1
  have M2 := hid M2
  have HN1 := hid HT1.out.len
  have HN2 := hid HT2.out.len
  go_wp2_with fail
  have BX : Hid (Below w2.heap.size w2 (w2.alloc (.cells #[.int .i64 2, .slice A1 n1 c1, .int .i64 2, .slice A2 n2 c2] 43))) := (Below.refl _ w2).alloc (Nat.le_refl _) _
  have PX : Hid (Blk (w2.alloc (.cells #[.int .i64 2, .slice A1 n1 c1, .int .i64 2, .slice A2 n2 c2] 43)) w2.heap.size 43 #[.int .i64 2, .slice A1 n1 c1, .int .i64 2, .slice A2 n2 c2]) := Blk.new w2 43 _
  have HT1b := hid ((((HT1.out.below HB2.out).more HB2.out.size).below BX.out).more BX.out.size)
  have HT2b := hid ((HT2.out.below BX.out).more BX.out.size)
  have HP1b := hid (((HP1.out.below HB1.out HP1.out.lt).below HB2.out (Nat.lt_of_lt_of_le HP1.out.lt HB1.out.size)).below BX.out (Nat.lt_of_lt_of_le HP1.out.lt (Nat.le_trans HB1.out.size HB2.out.size)))
  have HP2b := hid (((HP2.out.below HB1.out HP2.out.lt).below HB2.out (Nat.lt_of_lt_of_le HP2.out.lt HB1.out.size)).below BX.out (Nat.lt_of_lt_of_le HP2.out.lt (Nat.le_trans HB1.out.size HB2.out.size)))
  have HBX : Hid (Below w.heap.size w (w2.alloc (.cells #[.int .i64 2, .slice A1 n1 c1, .int .i64 2, .slice A2 n2 c2] 43))) := belowT (belowT (belowT HB.out HB1.out) HB2.out) BX.out
  have hn1 : n1 ≤ 10 := by rw [← HN1.out]; exact hF
  have hn2 : n2 ≤ 10 := by rw [← HN2.out]; exact hF
  clear hF
  generalize w2.alloc (.cells #[.int .i64 2, .slice A1 n1 c1, .int .i64 2, .slice A2 n2 c2] 43) = wx at *
  have HAT := hid (fun W => at110 W 7 4)
  generalize formL 2 [(7, 4)] = F at *
  have HF : Hid (∀ W, But nil_ wx W → ((W.cell? ⟨w.heap.size, 0, none⟩ = some (.int .i64 2) ∧ W.cell? ⟨w.heap.size, 1, none⟩ = some (.slice none 0 0)) ∧ (W.cell? ⟨w.heap.size + 1, 0, none⟩ = some (.int .i64 2) ∧ W.cell? ⟨w.heap.size + 1, 1, none⟩ = some (.slice none 0 0) ∧ W.cell? ⟨w.heap.size + 1, 2, none⟩ = some (.int .i64 2) ∧ W.cell? ⟨w.heap.size + 1, 3, none⟩ = some (.slice none 0 0))) ∧ (W.cell? ⟨w2.heap.size, 0, none⟩ = some (.int .i64 2) ∧ W.cell? ⟨w2.heap.size, 1, none⟩ = some (.slice A1 n1 c1) ∧ W.cell? ⟨w2.heap.size, 2, none⟩ = some (.int .i64 2) ∧ W.cell? ⟨w2.heap.size, 3, none⟩ = some (.slice A2 n2 c2))) :=
    fun W hW => ⟨⟨(hW.blk HP1b.out (fun h => h)).cells2, (hW.blk HP2b.out (fun h => h)).cells4⟩, (hW.blk PX.out (fun h => h)).cells4⟩
  refine wp_region_told 37 nil_ mixed (by kernel_rfl) ?_
  simp only [List.take_succ_cons, List.take_zero, List.drop_succ_cons, List.drop_zero]
  repeat (refine told_val (v := ?_) (fun _ => rfl) (fun vs W hW => ?_) ?_; rotate_left; (focus (have hf := HF.out W hW; clear hW; go_simp; exact loose_val)); simp only [Act.put, List.setIfInBounds_toArray, List.set_cons_zero, List.set_cons_succ, List.nil_append, List.cons_append, Nat.reduceAdd, Leaves.at])
  refine told_val (v := .bool true) (fun _ => rfl) (fun vs W hW => ?_) ?_
  · go_simp
    exact loose_call (by have := f54 W 2 none 0 0 [] 2 none 0 0 [] 2 none 0 0 [] CatsAt.nil_ (by omega) CatsAt.nil_ (by omega) CatsAt.nil_ (by omega); rw [R1.out] at this; exact this)
  simp only [Act.put, List.setIfInBounds_toArray, List.set_cons_zero, List.set_cons_succ, List.nil_append, List.cons_append, Nat.reduceAdd, Leaves.at]
  repeat (refine told_val (v := ?_) (fun _ => rfl) (fun vs W hW => ?_) ?_; rotate_left; (focus (have hf := HF.out W hW; clear hW; go_simp; exact loose_val)); simp only [Act.put, List.setIfInBounds_toArray, List.set_cons_zero, List.set_cons_succ, List.nil_append, List.cons_append, Nat.reduceAdd, Leaves.at])
  refine told_val (v := .bool true) (fun _ => rfl) (fun vs W hW => ?_) ?_
  · go_simp
    exact loose_call (by have := f56 W 2 none 0 0 [] 2 none 0 0 [] 2 none 0 0 [] CatsAt.nil_ (by omega) CatsAt.nil_ (by omega) CatsAt.nil_ (by omega); rw [W1.out] at this; exact this)
  simp only [Act.put, List.setIfInBounds_toArray, List.set_cons_zero, List.set_cons_succ, List.nil_append, List.cons_append, Nat.reduceAdd, Leaves.at]
  repeat (refine told_val (v := ?_) (fun _ => rfl) (fun vs W hW => ?_) ?_; rotate_left; (focus (have hf := HF.out W hW; clear hW; go_simp; exact loose_val)); simp only [Act.put, List.setIfInBounds_toArray, List.set_cons_zero, List.set_cons_succ, List.nil_append, List.cons_append, Nat.reduceAdd, Leaves.at])
  refine told_val (v := .bool true) (fun _ => rfl) (fun vs W hW => ?_) ?_
  · go_simp
    exact loose_call (by have := f54 W 2 A1 n1 c1 F 2 A2 n2 c2 F 2 none 0 0 [] (HT1b.out.since_ hW) (by omega) (HT2b.out.since_ hW) (by omega) CatsAt.nil_ (by omega); rw [R2.out] at this; exact this)
  simp only [Act.put, List.setIfInBounds_toArray, List.set_cons_zero, List.set_cons_succ, List.nil_append, List.cons_append, Nat.reduceAdd, Leaves.at]
  repeat (refine told_val (v := ?_) (fun _ => rfl) (fun vs W hW => ?_) ?_; rotate_left; (focus (have hf := HF.out W hW; clear hW; go_simp; exact loose_val)); simp only [Act.put, List.setIfInBounds_toArray, List.set_cons_zero, List.set_cons_succ, List.nil_append, List.cons_append, Nat.reduceAdd, Leaves.at])
  refine told_val (v := .bool false) (fun _ => rfl) (fun vs W hW => ?_) ?_
  · go_simp
    exact loose_call (by have := f56 W 2 A1 n1 c1 F 2 A2 n2 c2 F 2 none 0 0 [] (HT1b.out.since_ hW) (by omega) (HT2b.out.since_ hW) (by omega) CatsAt.nil_ (by omega); rw [W2.out] at this; exact this)
  simp only [Act.put, List.setIfInBounds_toArray, List.set_cons_zero, List.set_cons_succ, List.nil_append, List.cons_append, Nat.reduceAdd, Leaves.at]
  repeat (refine told_val (v := ?_) (fun _ => rfl) (fun vs W hW => ?_) ?_; rotate_left; (focus (have hf := HF.out W hW; clear hW; go_simp; exact loose_val)); simp only [Act.put, List.setIfInBounds_toArray, List.set_cons_zero, List.set_cons_succ, List.nil_append, List.cons_append, Nat.reduceAdd, Leaves.at])
  refine told_rel (LabR 2 F) LabR.stable (fun _ => rfl) (fun vs W hW hd => ?_) ?_
  · clear hd
    go_simp
    exact loose_callR (HAT.out W)
  simp only [Act.put, List.setIfInBounds_toArray, List.set_cons_zero, List.set_cons_succ, List.nil_append, List.cons_append, Nat.reduceAdd, Leaves.at]
  refine told_val' (v := .bool false) (fun _ => rfl) (fun vs W hW hd => ?_) ?_
  · obtain ⟨P21, m21, k21, e21, hT21⟩ := hd ⟨21, .data⟩ (by simp) rfl _ rfl (fun h => by cases h)
    clear hd
    go_simp
    exact loose_call (by have := f54 W 2 none 0 0 [] 2 none 0 0 [] 2 P21 m21 k21 F CatsAt.nil_ (by omega) CatsAt.nil_ (by omega) hT21 (by have := hT21.len; have := HN1.out; omega); rw [R3.out] at this; exact this)
  simp only [Act.put, List.setIfInBounds_toArray, List.set_cons_zero, List.set_cons_succ, List.nil_append, List.cons_append, Nat.reduceAdd, Leaves.at]
  repeat (refine told_val (v := ?_) (fun _ => rfl) (fun vs W hW => ?_) ?_; rotate_left; (focus (have hf := HF.out W hW; clear hW; go_simp; exact loose_val)); simp only [Act.put, List.setIfInBounds_toArray, List.set_cons_zero, List.set_cons_succ, List.nil_append, List.cons_append, Nat.reduceAdd, Leaves.at])
  refine told_val (v := .bool true) (fun _ => rfl) (fun vs W hW => ?_) ?_
  · go_simp
    exact loose_call (by have := f58 W 2 none 0 0 [] 2 none 0 0 [] 2 none 0 0 [] CatsAt.nil_ (by omega) CatsAt.nil_ (by omega) CatsAt.nil_ (by omega); rw [M1.out] at this; exact this)
  simp only [Act.put, List.setIfInBounds_toArray, List.set_cons_zero, List.set_cons_succ, List.nil_append, List.cons_append, Nat.reduceAdd, Leaves.at]
  repeat (refine told_val (v := ?_) (fun _ => rfl) (fun vs W hW => ?_) ?_; rotate_left; (focus (have hf := HF.out W hW; clear hW; go_simp; exact loose_val)); simp only [Act.put, List.setIfInBounds_toArray, List.set_cons_zero, List.set_cons_succ, List.nil_append, List.cons_append, Nat.reduceAdd, Leaves.at])
  refine told_val (v := .bool false) (fun _ => rfl) (fun vs W hW => ?_) ?_
  · go_simp
    exact loose_call (by have := f58 W 2 A1 n1 c1 F 2 A2 n2 c2 F 2 none 0 0 [] (HT1b.out.since_ hW) (by omega) (HT2b.out.since_ hW) (by omega) CatsAt.nil_ (by omega); rw [M2.out] at this; exact this)
  simp only [Act.put, List.setIfInBounds_toArray, List.set_cons_zero, List.set_cons_succ, List.nil_append, List.cons_append, Nat.reduceAdd, Leaves.at]
  repeat (refine told_val (v := ?_) (fun _ => rfl) (fun vs W hW => ?_) ?_; rotate_left; (focus (have hf := HF.out W hW; clear hW; go_simp; exact loose_val)); simp only [Act.put, List.setIfInBounds_toArray, List.set_cons_zero, List.set_cons_succ, List.nil_append, List.cons_append, Nat.reduceAdd, Leaves.at])
  refine told_nil ?_
  intro vs W hW hok hap
  clear hap
  dsimp only
  have HBE := hid (HBX.out.trans (since_below hW HBX.out.size))
  clear hok hW
  go_wp2_with fail
  go_ret
  exact ⟨rfl, HBE.out⟩
end Go.Proofs.Ytndohmimcbmhdaa

/- flow's checks and the document's. -/
set_option linter.unusedVariables false
set_option linter.unusedSimpArgs false
namespace Go.Proofs.Ytndohmimcbmhdaa
open Go.RowKit Go.Sort

def clearsB (d : Int) (l : List (Int × Int)) (e : Int) (r : List (Int × Int)) (d' : Int) (l' : List (Int × Int)) : Bool := pureB d' l' && (leqB d l d' l' && leqB d' l' (max e (turnF 0 5 d d)) (joinL e r (turnF 0 5 d d) (raiseL d l)))

set_option maxHeartbeats 4000000 in
set_option maxRecDepth 100000 in
theorem f60 (w : World) (d0 : Int) (A0 : Option Addr) (n0 c0 : Nat) (l0 : List (Int × Int)) (e0 : Int) (E0 : Option Addr) (m0 k0 : Nat) (r0 : List (Int × Int)) (d1 : Int) (A1 : Option Addr) (n1 c1 : Nat) (l1 : List (Int × Int)) (d2 : Int) (A2 : Option Addr) (n2 c2 : Nat) (l2 : List (Int × Int)) (t0 : CatsAt w w.heap.size A0 n0 c0 l0) (z0 : n0 ≤ 67108864) (u0 : CatsAt w w.heap.size E0 m0 k0 r0) (y0 : m0 ≤ 67108864) (t1 : CatsAt w w.heap.size A1 n1 c1 l1) (z1 : n1 ≤ 67108864) (t2 : CatsAt w w.heap.size A2 n2 c2 l2) (z2 : n2 ≤ 67108864) :
    Calls Try.prog 60 #[.agg #[.int .i64 d0, .slice A0 n0 c0, .int .i64 e0, .slice E0 m0 k0], .agg #[.int .i64 d1, .slice A1 n1 c1], .agg #[.int .i64 d2, .slice A2 n2 c2]] w fun e w' => e = .returned (.bool (spawnsB d0 l0 e0 r0 d1 l1 d2 l2)) ∧ Below w.heap.size w w' := by
  have mixed : Try.prog.follows .mixedOrders = true := by kernel_rfl
  obtain ⟨q0, q1, q2, q3⟩ := three_blk w #[.int .i64 d0, .slice A0 n0 c0, .int .i64 e0, .slice E0 m0 k0] #[.int .i64 d1, .slice A1 n1 c1] #[.int .i64 d2, .slice A2 n2 c2] 43 26 26
  have HB := hid q0
  have HP0 := hid q1
  have HP1 := hid q2
  have HP2 := hid q3
  have H0 := hid ((t0.below q0).more q0.size)
  have G0 := hid ((u0.below q0).more q0.size)
  have H1 := hid ((t1.below q0).more q0.size)
  have H2 := hid ((t2.below q0).more q0.size)
  have HE : Hid ((spawnsB d0 l0 e0 r0 d1 l1 d2 l2) = (whoB d1 l1 d2 l2 && risesP [(d0, l0), (d1, l1), (d2, l2), (e0, r0)])) := by show _ = _; unfold spawnsB; simp [risesP]
  clear t0 u0 t1 t2 q0 q1 q2 q3
  go_enter Try.func60, Try.ntmps60
  go_wp2_with (refine wp_list_told 15 15 nil_ rfl (by decide) ?_)
  generalize ((w.alloc (.cells #[.int .i64 d0, .slice A0 n0 c0, .int .i64 e0, .slice E0 m0 k0] 43)).alloc (.cells #[.int .i64 d1, .slice A1 n1 c1] 26)).alloc (.cells #[.int .i64 d2, .slice A2 n2 c2] 26) = wa at *
  have HF : Hid (∀ W, But nil_ wa W → (W.cell? ⟨w.heap.size, 0, none⟩ = some (.int .i64 d0) ∧ W.cell? ⟨w.heap.size, 1, none⟩ = some (.slice A0 n0 c0) ∧ W.cell? ⟨w.heap.size, 2, none⟩ = some (.int .i64 e0) ∧ W.cell? ⟨w.heap.size, 3, none⟩ = some (.slice E0 m0 k0)) ∧ (W.cell? ⟨w.heap.size + 1, 0, none⟩ = some (.int .i64 d1) ∧ W.cell? ⟨w.heap.size + 1, 1, none⟩ = some (.slice A1 n1 c1)) ∧ (W.cell? ⟨w.heap.size + 1 + 1, 0, none⟩ = some (.int .i64 d2) ∧ W.cell? ⟨w.heap.size + 1 + 1, 1, none⟩ = some (.slice A2 n2 c2))) := fun W hW => ⟨(hW.blk HP0.out (fun h => h)).cells4, (hW.blk HP1.out (fun h => h)).cells2, (hW.blk HP2.out (fun h => h)).cells2⟩
  try simp only [List.take_succ_cons, List.take_zero, List.drop_succ_cons, List.drop_zero]
  have HPU := hid (fun W (hW : But nil_ wa W) => f115 W d1 A1 n1 c1 l1 d2 A2 n2 c2 l2 (H1.out.since_ hW) (by omega) (H2.out.since_ hW) (by omega))
  generalize whoB d1 l1 d2 l2 = q at *
  repeat (refine told_val (v := ?_) (fun _ => rfl) (fun vs W hW => ?_) ?_; rotate_left; (focus (have hf := HF.out W hW; clear hW; go_simp; exact loose_val)); simp only [Act.put, List.setIfInBounds_toArray, List.set_cons_zero, List.set_cons_succ, List.nil_append, List.cons_append, Nat.reduceAdd, Leaves.at])
  refine told_val (v := .bool q) (fun _ => rfl) (fun vs W hW => ?_) ?_
  · go_simp
    exact loose_call (HPU.out W hW)
  simp only [Act.put, List.setIfInBounds_toArray, List.set_cons_zero, List.set_cons_succ, List.nil_append, List.cons_append, Nat.reduceAdd, Leaves.at]
  repeat (refine told_val (v := ?_) (fun _ => rfl) (fun vs W hW => ?_) ?_; rotate_left; (focus (have hf := HF.out W hW; clear hW; go_simp; exact loose_val)); simp only [Act.put, List.setIfInBounds_toArray, List.set_cons_zero, List.set_cons_succ, List.nil_append, List.cons_append, Nat.reduceAdd, Leaves.at])
  cases q with
  | false =>
    repeat (first | (refine told_off (fun _ => rfl) ?_; simp only [Act.put, List.setIfInBounds_toArray, List.set_cons_zero, List.set_cons_succ, List.nil_append, List.cons_append, Nat.reduceAdd, Leaves.at]) | (refine told_val (v := ?_) (fun _ => rfl) (fun vs W hW => ?_) ?_; rotate_left; (focus (have hf := HF.out W hW; clear hW; go_simp; exact loose_val)); simp only [Act.put, List.setIfInBounds_toArray, List.set_cons_zero, List.set_cons_succ, List.nil_append, List.cons_append, Nat.reduceAdd, Leaves.at]))
    refine told_nil ?_
    intro vs W hW hok hap
    clear hap
    dsimp only
    have HB2 := hid (HB.out.trans (since_below hW HB.out.size))
    clear hok hW
    go_wp2_with fail
    go_ret
    exact ⟨by rw [HE.out]; rfl, HB2.out⟩
  | true =>
    repeat (refine told_val (v := ?_) (fun _ => rfl) (fun vs W hW => ?_) ?_; rotate_left; (focus (have hf := HF.out W hW; clear hW; go_simp; exact loose_val)); simp only [Act.put, List.setIfInBounds_toArray, List.set_cons_zero, List.set_cons_succ, List.nil_append, List.cons_append, Nat.reduceAdd, Leaves.at])
    refine told_rel (LabsR [(d0, l0), (d1, l1), (d2, l2), (e0, r0)]) LabsR.stable (fun _ => rfl) (fun vs W hW hd => ?_) ?_
    · clear hd
      have hf := HF.out W hW
      have hmem := hid (List.forall_mem_cons.2 ⟨H0.out.since_ hW, List.forall_mem_cons.2 ⟨H1.out.since_ hW, List.forall_mem_cons.2 ⟨H2.out.since_ hW, List.forall_mem_cons.2 ⟨G0.out.since_ hW, fun _ h => nomatch h⟩⟩⟩⟩ : ∀ l ∈ [(⟨d0, A0, n0, c0, l0⟩ : LabV), (⟨d1, A1, n1, c1, l1⟩ : LabV), (⟨d2, A2, n2, c2, l2⟩ : LabV), (⟨e0, E0, m0, k0, r0⟩ : LabV)], l.at_ W)
      clear hW
      go_simp
      exact loose_labs _ hmem.out
    simp only [Act.put, List.setIfInBounds_toArray, List.set_cons_zero, List.set_cons_succ, List.nil_append, List.cons_append, Nat.reduceAdd, Leaves.at]
    refine told_val' (v := .bool (risesP [(d0, l0), (d1, l1), (d2, l2), (e0, r0)])) (fun _ => rfl) (fun vs W hW hd => ?_) ?_
    · have hl := hd ⟨11, .data⟩ (by simp) rfl _ rfl (fun h => by cases h)
      have hr := hid (rises_R hl (by simp) (by simp))
      clear hd hl
      go_simp
      exact loose_call hr.out
    simp only [Act.put, List.setIfInBounds_toArray, List.set_cons_zero, List.set_cons_succ, List.nil_append, List.cons_append, Nat.reduceAdd, Leaves.at]
    repeat (refine told_val (v := ?_) (fun _ => rfl) (fun vs W hW => ?_) ?_; rotate_left; (focus (have hf := HF.out W hW; clear hW; go_simp; exact loose_val)); simp only [Act.put, List.setIfInBounds_toArray, List.set_cons_zero, List.set_cons_succ, List.nil_append, List.cons_append, Nat.reduceAdd, Leaves.at])
    refine told_nil ?_
    intro vs W hW hok hap
    clear hap
    dsimp only
    have HB2 := hid (HB.out.trans (since_below hW HB.out.size))
    clear hok hW
    go_wp2_with fail
    go_ret
    exact ⟨by rw [HE.out]; rfl, HB2.out⟩

set_option maxHeartbeats 4000000 in
set_option maxRecDepth 100000 in
theorem f61 (w : World) (d0 : Int) (A0 : Option Addr) (n0 c0 : Nat) (l0 : List (Int × Int)) (d1 : Int) (A1 : Option Addr) (n1 c1 : Nat) (l1 : List (Int × Int)) (d2 : Int) (A2 : Option Addr) (n2 c2 : Nat) (l2 : List (Int × Int)) (d3 : Int) (A3 : Option Addr) (n3 c3 : Nat) (l3 : List (Int × Int)) (t0 : CatsAt w w.heap.size A0 n0 c0 l0) (z0 : n0 ≤ 67108864) (t1 : CatsAt w w.heap.size A1 n1 c1 l1) (z1 : n1 ≤ 67108864) (t2 : CatsAt w w.heap.size A2 n2 c2 l2) (z2 : n2 ≤ 67108864) (t3 : CatsAt w w.heap.size A3 n3 c3 l3) (z3 : n3 ≤ 67108864) :
    Calls Try.prog 61 #[.agg #[.int .i64 d0, .slice A0 n0 c0], .agg #[.int .i64 d1, .slice A1 n1 c1], .agg #[.int .i64 d2, .slice A2 n2 c2], .agg #[.int .i64 d3, .slice A3 n3 c3]] w fun e w' => e = .returned (.bool (spawnsB d0 l0 d1 l1 d2 l2 d3 l3)) ∧ Below w.heap.size w w' := by
  have mixed : Try.prog.follows .mixedOrders = true := by kernel_rfl
  obtain ⟨q0, q1, q2, q3, q4, q9⟩ := four_blk w #[.int .i64 d0, .slice A0 n0 c0] #[.int .i64 d1, .slice A1 n1 c1] #[.int .i64 d2, .slice A2 n2 c2] #[.int .i64 d3, .slice A3 n3 c3] 26 26 26 26
  have HB := hid q0
  have HP0 := hid q1
  have HP1 := hid q2
  have HP2 := hid q3
  have HP3 := hid q4
  have H0 := hid ((t0.below q0).more q0.size)
  have H1 := hid ((t1.below q0).more q0.size)
  have H2 := hid ((t2.below q0).more q0.size)
  have H3 := hid ((t3.below q0).more q0.size)
  have HE : Hid ((spawnsB d0 l0 d1 l1 d2 l2 d3 l3) = (((((rightB d2 l2 && rightB d3 l3) && pureD d3 l3) && leqB d0 l0 d2 l2) && leqB d2 l2 d3 l3) && leqB d3 l3 d1 l1)) := by show _ = _; unfold spawnsB whoB; rw [← pure_both]; simp [Bool.and_assoc]
  clear t0 t1 t2 t3 q0 q1 q2 q3 q4 q9
  go_enter Try.func61, Try.ntmps61
  go_wp2_with (refine wp_list_told 26 26 nil_ rfl (by decide) ?_)
  generalize (((w.alloc (.cells #[.int .i64 d0, .slice A0 n0 c0] 26)).alloc (.cells #[.int .i64 d1, .slice A1 n1 c1] 26)).alloc (.cells #[.int .i64 d2, .slice A2 n2 c2] 26)).alloc (.cells #[.int .i64 d3, .slice A3 n3 c3] 26) = wa at *
  have HF : Hid (∀ W, But nil_ wa W → (W.cell? ⟨w.heap.size, 0, none⟩ = some (.int .i64 d0) ∧ W.cell? ⟨w.heap.size, 1, none⟩ = some (.slice A0 n0 c0)) ∧ (W.cell? ⟨w.heap.size + 1, 0, none⟩ = some (.int .i64 d1) ∧ W.cell? ⟨w.heap.size + 1, 1, none⟩ = some (.slice A1 n1 c1)) ∧ (W.cell? ⟨w.heap.size + 1 + 1, 0, none⟩ = some (.int .i64 d2) ∧ W.cell? ⟨w.heap.size + 1 + 1, 1, none⟩ = some (.slice A2 n2 c2)) ∧ (W.cell? ⟨w.heap.size + 1 + 1 + 1, 0, none⟩ = some (.int .i64 d3) ∧ W.cell? ⟨w.heap.size + 1 + 1 + 1, 1, none⟩ = some (.slice A3 n3 c3))) := fun W hW => ⟨(hW.blk HP0.out (fun h => h)).cells2, (hW.blk HP1.out (fun h => h)).cells2, (hW.blk HP2.out (fun h => h)).cells2, (hW.blk HP3.out (fun h => h)).cells2⟩
  try simp only [List.take_succ_cons, List.take_zero, List.drop_succ_cons, List.drop_zero]
  have HA := hid (fun W (hW : But nil_ wa W) => right52 W d2 A2 n2 c2 l2 (H2.out.since_ hW))
  have HB_ := hid (fun W (hW : But nil_ wa W) => right52 W d3 A3 n3 c3 l3 (H3.out.since_ hW))
  have HU := hid (fun W (hW : But nil_ wa W) => pure114 W d3 A3 n3 c3 l3 (H3.out.since_ hW))
  have HL := hid (fun W (hW : But nil_ wa W) => leq41_b W d0 d2 A0 A2 n0 c0 n2 c2 l0 l2 (H0.out.since_ hW) (H2.out.since_ hW) (by omega))
  have HM := hid (fun W (hW : But nil_ wa W) => leq41_b W d2 d3 A2 A3 n2 c2 n3 c3 l2 l3 (H2.out.since_ hW) (H3.out.since_ hW) (by omega))
  have HN := hid (fun W (hW : But nil_ wa W) => leq41_b W d3 d1 A3 A1 n3 c3 n1 c1 l3 l1 (H3.out.since_ hW) (H1.out.since_ hW) (by omega))
  generalize rightB d2 l2 = q1 at *
  generalize rightB d3 l3 = q2 at *
  generalize pureD d3 l3 = q3 at *
  generalize leqB d0 l0 d2 l2 = q4 at *
  generalize leqB d2 l2 d3 l3 = q5 at *
  generalize leqB d3 l3 d1 l1 = q6 at *
  repeat (refine told_val (v := ?_) (fun _ => rfl) (fun vs W hW => ?_) ?_; rotate_left; (focus (have hf := HF.out W hW; clear hW; go_simp; exact loose_val)); simp only [Act.put, List.setIfInBounds_toArray, List.set_cons_zero, List.set_cons_succ, List.nil_append, List.cons_append, Nat.reduceAdd, Leaves.at])
  refine told_val (v := .bool q1) (fun _ => rfl) (fun vs W hW => ?_) ?_
  · go_simp
    exact loose_call (HA.out W hW)
  simp only [Act.put, List.setIfInBounds_toArray, List.set_cons_zero, List.set_cons_succ, List.nil_append, List.cons_append, Nat.reduceAdd, Leaves.at]
  repeat (refine told_val (v := ?_) (fun _ => rfl) (fun vs W hW => ?_) ?_; rotate_left; (focus (have hf := HF.out W hW; clear hW; go_simp; exact loose_val)); simp only [Act.put, List.setIfInBounds_toArray, List.set_cons_zero, List.set_cons_succ, List.nil_append, List.cons_append, Nat.reduceAdd, Leaves.at])
  repeat (refine told_maybe (b := q1) (v := ?_) (fun _ => Bool.casesOn q1 rfl rfl) (fun hb vs W hW => ?_) ?_; rotate_left; (focus (have hf := HF.out W hW; clear hW; (try simp only [hb, cond_true, cond_false]); go_simp; exact loose_val)); simp only [Act.put, List.setIfInBounds_toArray, List.set_cons_zero, List.set_cons_succ, List.nil_append, List.cons_append, Nat.reduceAdd, Leaves.at])
  refine told_maybe (b := q1) (v := .bool q2) (fun _ => Bool.casesOn q1 rfl rfl) (fun hb vs W hW => ?_) ?_
  · try simp only [hb, cond_true, cond_false]
    go_simp
    exact loose_call (HB_.out W hW)
  simp only [Act.put, List.setIfInBounds_toArray, List.set_cons_zero, List.set_cons_succ, List.nil_append, List.cons_append, Nat.reduceAdd, Leaves.at]
  refine told_val (v := .bool (q1 && q2)) (fun _ => rfl) (fun vs W hW => ?_) ?_
  · cases q1 <;> cases q2 <;> (go_simp; exact loose_val)
  simp only [Act.put, List.setIfInBounds_toArray, List.set_cons_zero, List.set_cons_succ, List.nil_append, List.cons_append, Nat.reduceAdd, Leaves.at]
  generalize (q1 && q2) = s1 at *
  repeat (refine told_val (v := ?_) (fun _ => rfl) (fun vs W hW => ?_) ?_; rotate_left; (focus (have hf := HF.out W hW; clear hW; go_simp; exact loose_val)); simp only [Act.put, List.setIfInBounds_toArray, List.set_cons_zero, List.set_cons_succ, List.nil_append, List.cons_append, Nat.reduceAdd, Leaves.at])
  repeat (refine told_maybe (b := s1) (v := ?_) (fun _ => Bool.casesOn s1 rfl rfl) (fun hb vs W hW => ?_) ?_; rotate_left; (focus (have hf := HF.out W hW; clear hW; (try simp only [hb, cond_true, cond_false]); go_simp; exact loose_val)); simp only [Act.put, List.setIfInBounds_toArray, List.set_cons_zero, List.set_cons_succ, List.nil_append, List.cons_append, Nat.reduceAdd, Leaves.at])
  refine told_maybe (b := s1) (v := .bool q3) (fun _ => Bool.casesOn s1 rfl rfl) (fun hb vs W hW => ?_) ?_
  · try simp only [hb, cond_true, cond_false]
    go_simp
    exact loose_call (HU.out W hW)
  simp only [Act.put, List.setIfInBounds_toArray, List.set_cons_zero, List.set_cons_succ, List.nil_append, List.cons_append, Nat.reduceAdd, Leaves.at]
  refine told_val (v := .bool (s1 && q3)) (fun _ => rfl) (fun vs W hW => ?_) ?_
  · cases s1 <;> cases q3 <;> (go_simp; exact loose_val)
  simp only [Act.put, List.setIfInBounds_toArray, List.set_cons_zero, List.set_cons_succ, List.nil_append, List.cons_append, Nat.reduceAdd, Leaves.at]
  generalize (s1 && q3) = s2 at *
  repeat (refine told_val (v := ?_) (fun _ => rfl) (fun vs W hW => ?_) ?_; rotate_left; (focus (have hf := HF.out W hW; clear hW; go_simp; exact loose_val)); simp only [Act.put, List.setIfInBounds_toArray, List.set_cons_zero, List.set_cons_succ, List.nil_append, List.cons_append, Nat.reduceAdd, Leaves.at])
  repeat (refine told_maybe (b := s2) (v := ?_) (fun _ => Bool.casesOn s2 rfl rfl) (fun hb vs W hW => ?_) ?_; rotate_left; (focus (have hf := HF.out W hW; clear hW; (try simp only [hb, cond_true, cond_false]); go_simp; exact loose_val)); simp only [Act.put, List.setIfInBounds_toArray, List.set_cons_zero, List.set_cons_succ, List.nil_append, List.cons_append, Nat.reduceAdd, Leaves.at])
  refine told_maybe (b := s2) (v := .bool q4) (fun _ => Bool.casesOn s2 rfl rfl) (fun hb vs W hW => ?_) ?_
  · try simp only [hb, cond_true, cond_false]
    go_simp
    exact loose_call (HL.out W hW)
  simp only [Act.put, List.setIfInBounds_toArray, List.set_cons_zero, List.set_cons_succ, List.nil_append, List.cons_append, Nat.reduceAdd, Leaves.at]
  refine told_val (v := .bool (s2 && q4)) (fun _ => rfl) (fun vs W hW => ?_) ?_
  · cases s2 <;> cases q4 <;> (go_simp; exact loose_val)
  simp only [Act.put, List.setIfInBounds_toArray, List.set_cons_zero, List.set_cons_succ, List.nil_append, List.cons_append, Nat.reduceAdd, Leaves.at]
  generalize (s2 && q4) = s3 at *
  repeat (refine told_val (v := ?_) (fun _ => rfl) (fun vs W hW => ?_) ?_; rotate_left; (focus (have hf := HF.out W hW; clear hW; go_simp; exact loose_val)); simp only [Act.put, List.setIfInBounds_toArray, List.set_cons_zero, List.set_cons_succ, List.nil_append, List.cons_append, Nat.reduceAdd, Leaves.at])
  repeat (refine told_maybe (b := s3) (v := ?_) (fun _ => Bool.casesOn s3 rfl rfl) (fun hb vs W hW => ?_) ?_; rotate_left; (focus (have hf := HF.out W hW; clear hW; (try simp only [hb, cond_true, cond_false]); go_simp; exact loose_val)); simp only [Act.put, List.setIfInBounds_toArray, List.set_cons_zero, List.set_cons_succ, List.nil_append, List.cons_append, Nat.reduceAdd, Leaves.at])
  refine told_maybe (b := s3) (v := .bool q5) (fun _ => Bool.casesOn s3 rfl rfl) (fun hb vs W hW => ?_) ?_
  · try simp only [hb, cond_true, cond_false]
    go_simp
    exact loose_call (HM.out W hW)
  simp only [Act.put, List.setIfInBounds_toArray, List.set_cons_zero, List.set_cons_succ, List.nil_append, List.cons_append, Nat.reduceAdd, Leaves.at]
  refine told_val (v := .bool (s3 && q5)) (fun _ => rfl) (fun vs W hW => ?_) ?_
  · cases s3 <;> cases q5 <;> (go_simp; exact loose_val)
  simp only [Act.put, List.setIfInBounds_toArray, List.set_cons_zero, List.set_cons_succ, List.nil_append, List.cons_append, Nat.reduceAdd, Leaves.at]
  generalize (s3 && q5) = s4 at *
  repeat (refine told_val (v := ?_) (fun _ => rfl) (fun vs W hW => ?_) ?_; rotate_left; (focus (have hf := HF.out W hW; clear hW; go_simp; exact loose_val)); simp only [Act.put, List.setIfInBounds_toArray, List.set_cons_zero, List.set_cons_succ, List.nil_append, List.cons_append, Nat.reduceAdd, Leaves.at])
  repeat (refine told_maybe (b := s4) (v := ?_) (fun _ => Bool.casesOn s4 rfl rfl) (fun hb vs W hW => ?_) ?_; rotate_left; (focus (have hf := HF.out W hW; clear hW; (try simp only [hb, cond_true, cond_false]); go_simp; exact loose_val)); simp only [Act.put, List.setIfInBounds_toArray, List.set_cons_zero, List.set_cons_succ, List.nil_append, List.cons_append, Nat.reduceAdd, Leaves.at])
  refine told_maybe (b := s4) (v := .bool q6) (fun _ => Bool.casesOn s4 rfl rfl) (fun hb vs W hW => ?_) ?_
  · try simp only [hb, cond_true, cond_false]
    go_simp
    exact loose_call (HN.out W hW)
  simp only [Act.put, List.setIfInBounds_toArray, List.set_cons_zero, List.set_cons_succ, List.nil_append, List.cons_append, Nat.reduceAdd, Leaves.at]
  refine told_val (v := .bool (s4 && q6)) (fun _ => rfl) (fun vs W hW => ?_) ?_
  · cases s4 <;> cases q6 <;> (go_simp; exact loose_val)
  simp only [Act.put, List.setIfInBounds_toArray, List.set_cons_zero, List.set_cons_succ, List.nil_append, List.cons_append, Nat.reduceAdd, Leaves.at]
  repeat (refine told_val (v := ?_) (fun _ => rfl) (fun vs W hW => ?_) ?_; rotate_left; (focus (have hf := HF.out W hW; clear hW; go_simp; exact loose_val)); simp only [Act.put, List.setIfInBounds_toArray, List.set_cons_zero, List.set_cons_succ, List.nil_append, List.cons_append, Nat.reduceAdd, Leaves.at])
  refine told_nil ?_
  intro vs W hW hok hap
  clear hap
  dsimp only
  have HB2 := hid (HB.out.trans (since_below hW HB.out.size))
  clear hok hW
  go_wp2_with fail
  go_ret
  exact ⟨by rw [HE.out]; rfl, HB2.out⟩

set_option maxHeartbeats 4000000 in
set_option maxRecDepth 100000 in
theorem f64 (w : World) (d0 : Int) (A0 : Option Addr) (n0 c0 : Nat) (l0 : List (Int × Int)) (e0 : Int) (E0 : Option Addr) (m0 k0 : Nat) (r0 : List (Int × Int)) (d1 : Int) (A1 : Option Addr) (n1 c1 : Nat) (l1 : List (Int × Int)) (t0 : CatsAt w w.heap.size A0 n0 c0 l0) (z0 : n0 ≤ 67108864) (u0 : CatsAt w w.heap.size E0 m0 k0 r0) (y0 : m0 ≤ 67108864) (t1 : CatsAt w w.heap.size A1 n1 c1 l1) (z1 : n1 ≤ 67108864) :
    Calls Try.prog 64 #[.agg #[.int .i64 d0, .slice A0 n0 c0, .int .i64 e0, .slice E0 m0 k0], .agg #[.int .i64 d1, .slice A1 n1 c1]] w fun e w' => e = .returned (.bool (clearsB d0 l0 e0 r0 d1 l1)) ∧ Below w.heap.size w w' := by
  have mixed : Try.prog.follows .mixedOrders = true := by kernel_rfl
  obtain ⟨q0, q1, q2⟩ := two_blk w #[.int .i64 d0, .slice A0 n0 c0, .int .i64 e0, .slice E0 m0 k0] #[.int .i64 d1, .slice A1 n1 c1] 43 26
  have HB := hid q0
  have HP0 := hid q1
  have HP1 := hid q2
  have H0 := hid ((t0.below q0).more q0.size)
  have G0 := hid ((u0.below q0).more q0.size)
  have H1 := hid ((t1.below q0).more q0.size)
  have HE : Hid ((clearsB d0 l0 e0 r0 d1 l1) = (pureB d1 l1 && risesP [(d0, l0), (d1, l1), (max e0 (turnF 0 5 d0 d0), joinL e0 r0 (turnF 0 5 d0 d0) (raiseL d0 l0))])) := by show _ = _; unfold clearsB; simp [risesP]
  clear t0 u0 t1 q0 q1 q2
  go_enter Try.func64, Try.ntmps64
  go_wp2_with fail
  generalize (w.alloc (.cells #[.int .i64 d0, .slice A0 n0 c0, .int .i64 e0, .slice E0 m0 k0] 43)).alloc (.cells #[.int .i64 d1, .slice A1 n1 c1] 26) = wa at *
  have HF : Hid (∀ W, But nil_ wa W → (W.cell? ⟨w.heap.size, 0, none⟩ = some (.int .i64 d0) ∧ W.cell? ⟨w.heap.size, 1, none⟩ = some (.slice A0 n0 c0) ∧ W.cell? ⟨w.heap.size, 2, none⟩ = some (.int .i64 e0) ∧ W.cell? ⟨w.heap.size, 3, none⟩ = some (.slice E0 m0 k0)) ∧ (W.cell? ⟨w.heap.size + 1, 0, none⟩ = some (.int .i64 d1) ∧ W.cell? ⟨w.heap.size + 1, 1, none⟩ = some (.slice A1 n1 c1))) := fun W hW => ⟨(hW.blk HP0.out (fun h => h)).cells4, (hW.blk HP1.out (fun h => h)).cells2⟩
  refine wp_region_told 16 nil_ mixed (by kernel_rfl) ?_
  simp only [List.take_succ_cons, List.take_zero, List.drop_succ_cons, List.drop_zero]
  have HPU := hid (fun W (hW : But nil_ wa W) => pure113 W d1 A1 n1 c1 l1 (H1.out.since_ hW))
  generalize pureB d1 l1 = q at *
  repeat (refine told_val (v := ?_) (fun _ => rfl) (fun vs W hW => ?_) ?_; rotate_left; (focus (have hf := HF.out W hW; clear hW; go_simp; exact loose_val)); simp only [Act.put, List.setIfInBounds_toArray, List.set_cons_zero, List.set_cons_succ, List.nil_append, List.cons_append, Nat.reduceAdd, Leaves.at])
  refine told_val (v := .bool q) (fun _ => rfl) (fun vs W hW => ?_) ?_
  · go_simp
    exact loose_call (HPU.out W hW)
  simp only [Act.put, List.setIfInBounds_toArray, List.set_cons_zero, List.set_cons_succ, List.nil_append, List.cons_append, Nat.reduceAdd, Leaves.at]
  repeat (refine told_val (v := ?_) (fun _ => rfl) (fun vs W hW => ?_) ?_; rotate_left; (focus (have hf := HF.out W hW; clear hW; go_simp; exact loose_val)); simp only [Act.put, List.setIfInBounds_toArray, List.set_cons_zero, List.set_cons_succ, List.nil_append, List.cons_append, Nat.reduceAdd, Leaves.at])
  cases q with
  | false =>
    repeat (first | (refine told_off (fun _ => rfl) ?_; simp only [Act.put, List.setIfInBounds_toArray, List.set_cons_zero, List.set_cons_succ, List.nil_append, List.cons_append, Nat.reduceAdd, Leaves.at]) | (refine told_val (v := ?_) (fun _ => rfl) (fun vs W hW => ?_) ?_; rotate_left; (focus (have hf := HF.out W hW; clear hW; go_simp; exact loose_val)); simp only [Act.put, List.setIfInBounds_toArray, List.set_cons_zero, List.set_cons_succ, List.nil_append, List.cons_append, Nat.reduceAdd, Leaves.at]))
    refine told_nil ?_
    intro vs W hW hok hap
    clear hap
    dsimp only
    have HB2 := hid (HB.out.trans (since_below hW HB.out.size))
    clear hok hW
    go_wp2_with fail
    go_ret
    exact ⟨by rw [HE.out]; rfl, HB2.out⟩
  | true =>
    repeat (refine told_val (v := ?_) (fun _ => rfl) (fun vs W hW => ?_) ?_; rotate_left; (focus (have hf := HF.out W hW; clear hW; go_simp; exact loose_val)); simp only [Act.put, List.setIfInBounds_toArray, List.set_cons_zero, List.set_cons_succ, List.nil_append, List.cons_append, Nat.reduceAdd, Leaves.at])
    refine told_rel (LabR (turnF 0 5 d0 d0) (raiseL d0 l0)) LabR.stable (fun _ => rfl) (fun vs W hW hd => ?_) ?_
    · clear hd
      go_simp
      exact loose_callR (raise46_l W d0 A0 n0 c0 l0 (H0.out.since_ hW) (by omega))
    simp only [Act.put, List.setIfInBounds_toArray, List.set_cons_zero, List.set_cons_succ, List.nil_append, List.cons_append, Nat.reduceAdd, Leaves.at]
    refine told_rel (LabR (max e0 (turnF 0 5 d0 d0)) (joinL e0 r0 (turnF 0 5 d0 d0) (raiseL d0 l0))) LabR.stable (fun _ => rfl) (fun vs W hW hd => ?_) ?_
    · obtain ⟨P10, m10, k10, e10, hT10⟩ := hd ⟨10, .data⟩ (by simp) rfl _ rfl (fun h => by cases h)
      clear hd
      go_simp
      exact loose_callR (join43_l W e0 _ E0 P10 m0 k0 m10 k10 r0 _ (G0.out.since_ hW) hT10 (by have := hT10.len; have := raiseL_len d0 l0; have := H0.out.len; omega))
    simp only [Act.put, List.setIfInBounds_toArray, List.set_cons_zero, List.set_cons_succ, List.nil_append, List.cons_append, Nat.reduceAdd, Leaves.at]
    refine told_rel (LabsR [(d0, l0), (d1, l1), (max e0 (turnF 0 5 d0 d0), joinL e0 r0 (turnF 0 5 d0 d0) (raiseL d0 l0))]) LabsR.stable (fun _ => rfl) (fun vs W hW hd => ?_) ?_
    · obtain ⟨P11, m11', k11', e11', hT11⟩ := hd ⟨11, .data⟩ (by simp) rfl _ rfl (fun h => by cases h)
      clear hd
      have hf := HF.out W hW
      have hmem := hid (List.forall_mem_cons.2 ⟨H0.out.since_ hW, List.forall_mem_cons.2 ⟨H1.out.since_ hW, List.forall_mem_cons.2 ⟨hT11, fun _ h => nomatch h⟩⟩⟩ : ∀ l ∈ [(⟨d0, A0, n0, c0, l0⟩ : LabV), (⟨d1, A1, n1, c1, l1⟩ : LabV), (⟨max e0 (turnF 0 5 d0 d0), P11, m11', k11', joinL e0 r0 (turnF 0 5 d0 d0) (raiseL d0 l0)⟩ : LabV)], l.at_ W)
      clear hW
      go_simp
      exact loose_labs _ hmem.out
    simp only [Act.put, List.setIfInBounds_toArray, List.set_cons_zero, List.set_cons_succ, List.nil_append, List.cons_append, Nat.reduceAdd, Leaves.at]
    refine told_val' (v := .bool (risesP [(d0, l0), (d1, l1), (max e0 (turnF 0 5 d0 d0), joinL e0 r0 (turnF 0 5 d0 d0) (raiseL d0 l0))])) (fun _ => rfl) (fun vs W hW hd => ?_) ?_
    · have hl := hd ⟨12, .data⟩ (by simp) rfl _ rfl (fun h => by cases h)
      have hr := hid (rises_R hl (by simp) (by simp))
      clear hd hl
      go_simp
      exact loose_call hr.out
    simp only [Act.put, List.setIfInBounds_toArray, List.set_cons_zero, List.set_cons_succ, List.nil_append, List.cons_append, Nat.reduceAdd, Leaves.at]
    repeat (refine told_val (v := ?_) (fun _ => rfl) (fun vs W hW => ?_) ?_; rotate_left; (focus (have hf := HF.out W hW; clear hW; go_simp; exact loose_val)); simp only [Act.put, List.setIfInBounds_toArray, List.set_cons_zero, List.set_cons_succ, List.nil_append, List.cons_append, Nat.reduceAdd, Leaves.at])
    refine told_nil ?_
    intro vs W hW hok hap
    clear hap
    dsimp only
    have HB2 := hid (HB.out.trans (since_below hW HB.out.size))
    clear hok hW
    go_wp2_with fail
    go_ret
    exact ⟨by rw [HE.out]; rfl, HB2.out⟩

set_option maxHeartbeats 4000000 in
set_option maxRecDepth 100000 in
theorem f65 (w : World) (d0 : Int) (A0 : Option Addr) (n0 c0 : Nat) (l0 : List (Int × Int)) (d1 : Int) (A1 : Option Addr) (n1 c1 : Nat) (l1 : List (Int × Int)) (d2 : Int) (A2 : Option Addr) (n2 c2 : Nat) (l2 : List (Int × Int)) (t0 : CatsAt w w.heap.size A0 n0 c0 l0) (z0 : n0 ≤ 67108864) (t1 : CatsAt w w.heap.size A1 n1 c1 l1) (z1 : n1 ≤ 67108864) (t2 : CatsAt w w.heap.size A2 n2 c2 l2) (z2 : n2 ≤ 67108864) :
    Calls Try.prog 65 #[.agg #[.int .i64 d0, .slice A0 n0 c0], .agg #[.int .i64 d1, .slice A1 n1 c1], .agg #[.int .i64 d2, .slice A2 n2 c2]] w fun e w' => e = .returned (.bool (clearsB d0 l0 d1 l1 d2 l2)) ∧ Below w.heap.size w w' := by
  have mixed : Try.prog.follows .mixedOrders = true := by kernel_rfl
  obtain ⟨q0, q1, q2, q3⟩ := three_blk w #[.int .i64 d0, .slice A0 n0 c0] #[.int .i64 d1, .slice A1 n1 c1] #[.int .i64 d2, .slice A2 n2 c2] 26 26 26
  have HB := hid q0
  have HP0 := hid q1
  have HP1 := hid q2
  have HP2 := hid q3
  have H0 := hid ((t0.below q0).more q0.size)
  have H1 := hid ((t1.below q0).more q0.size)
  have H2 := hid ((t2.below q0).more q0.size)
  have HE : Hid ((clearsB d0 l0 d1 l1 d2 l2) = (((rightB d2 l2 && pureD d2 l2) && leqB d0 l0 d2 l2) && leqB d2 l2 (max d1 (turnF 0 5 d0 d0)) (joinL d1 l1 (turnF 0 5 d0 d0) (raiseL d0 l0)))) := by show _ = _; unfold clearsB; rw [← pure_both]; simp [Bool.and_assoc]
  clear t0 t1 t2 q0 q1 q2 q3
  go_enter Try.func65, Try.ntmps65
  go_wp2_with fail
  generalize ((w.alloc (.cells #[.int .i64 d0, .slice A0 n0 c0] 26)).alloc (.cells #[.int .i64 d1, .slice A1 n1 c1] 26)).alloc (.cells #[.int .i64 d2, .slice A2 n2 c2] 26) = wa at *
  have HF : Hid (∀ W, But nil_ wa W → (W.cell? ⟨w.heap.size, 0, none⟩ = some (.int .i64 d0) ∧ W.cell? ⟨w.heap.size, 1, none⟩ = some (.slice A0 n0 c0)) ∧ (W.cell? ⟨w.heap.size + 1, 0, none⟩ = some (.int .i64 d1) ∧ W.cell? ⟨w.heap.size + 1, 1, none⟩ = some (.slice A1 n1 c1)) ∧ (W.cell? ⟨w.heap.size + 1 + 1, 0, none⟩ = some (.int .i64 d2) ∧ W.cell? ⟨w.heap.size + 1 + 1, 1, none⟩ = some (.slice A2 n2 c2))) := fun W hW => ⟨(hW.blk HP0.out (fun h => h)).cells2, (hW.blk HP1.out (fun h => h)).cells2, (hW.blk HP2.out (fun h => h)).cells2⟩
  refine wp_region_told 20 nil_ mixed (by kernel_rfl) ?_
  simp only [List.take_succ_cons, List.take_zero, List.drop_succ_cons, List.drop_zero]
  have HA := hid (fun W (hW : But nil_ wa W) => right52 W d2 A2 n2 c2 l2 (H2.out.since_ hW))
  have HU := hid (fun W (hW : But nil_ wa W) => pure114 W d2 A2 n2 c2 l2 (H2.out.since_ hW))
  have HL := hid (fun W (hW : But nil_ wa W) => leq41_b W d0 d2 A0 A2 n0 c0 n2 c2 l0 l2 (H0.out.since_ hW) (H2.out.since_ hW) (by omega))
  generalize rightB d2 l2 = q1 at *
  generalize pureD d2 l2 = q2 at *
  generalize leqB d0 l0 d2 l2 = q3 at *
  repeat (refine told_val (v := ?_) (fun _ => rfl) (fun vs W hW => ?_) ?_; rotate_left; (focus (have hf := HF.out W hW; clear hW; go_simp; exact loose_val)); simp only [Act.put, List.setIfInBounds_toArray, List.set_cons_zero, List.set_cons_succ, List.nil_append, List.cons_append, Nat.reduceAdd, Leaves.at])
  refine told_val (v := .bool q1) (fun _ => rfl) (fun vs W hW => ?_) ?_
  · go_simp
    exact loose_call (HA.out W hW)
  simp only [Act.put, List.setIfInBounds_toArray, List.set_cons_zero, List.set_cons_succ, List.nil_append, List.cons_append, Nat.reduceAdd, Leaves.at]
  repeat (refine told_val (v := ?_) (fun _ => rfl) (fun vs W hW => ?_) ?_; rotate_left; (focus (have hf := HF.out W hW; clear hW; go_simp; exact loose_val)); simp only [Act.put, List.setIfInBounds_toArray, List.set_cons_zero, List.set_cons_succ, List.nil_append, List.cons_append, Nat.reduceAdd, Leaves.at])
  repeat (refine told_maybe (b := q1) (v := ?_) (fun _ => Bool.casesOn q1 rfl rfl) (fun hb vs W hW => ?_) ?_; rotate_left; (focus (have hf := HF.out W hW; clear hW; (try simp only [hb, cond_true, cond_false]); go_simp; exact loose_val)); simp only [Act.put, List.setIfInBounds_toArray, List.set_cons_zero, List.set_cons_succ, List.nil_append, List.cons_append, Nat.reduceAdd, Leaves.at])
  refine told_maybe (b := q1) (v := .bool q2) (fun _ => Bool.casesOn q1 rfl rfl) (fun hb vs W hW => ?_) ?_
  · try simp only [hb, cond_true, cond_false]
    go_simp
    exact loose_call (HU.out W hW)
  simp only [Act.put, List.setIfInBounds_toArray, List.set_cons_zero, List.set_cons_succ, List.nil_append, List.cons_append, Nat.reduceAdd, Leaves.at]
  refine told_val (v := .bool (q1 && q2)) (fun _ => rfl) (fun vs W hW => ?_) ?_
  · cases q1 <;> cases q2 <;> (go_simp; exact loose_val)
  simp only [Act.put, List.setIfInBounds_toArray, List.set_cons_zero, List.set_cons_succ, List.nil_append, List.cons_append, Nat.reduceAdd, Leaves.at]
  generalize (q1 && q2) = s1 at *
  repeat (refine told_val (v := ?_) (fun _ => rfl) (fun vs W hW => ?_) ?_; rotate_left; (focus (have hf := HF.out W hW; clear hW; go_simp; exact loose_val)); simp only [Act.put, List.setIfInBounds_toArray, List.set_cons_zero, List.set_cons_succ, List.nil_append, List.cons_append, Nat.reduceAdd, Leaves.at])
  repeat (refine told_maybe (b := s1) (v := ?_) (fun _ => Bool.casesOn s1 rfl rfl) (fun hb vs W hW => ?_) ?_; rotate_left; (focus (have hf := HF.out W hW; clear hW; (try simp only [hb, cond_true, cond_false]); go_simp; exact loose_val)); simp only [Act.put, List.setIfInBounds_toArray, List.set_cons_zero, List.set_cons_succ, List.nil_append, List.cons_append, Nat.reduceAdd, Leaves.at])
  refine told_maybe (b := s1) (v := .bool q3) (fun _ => Bool.casesOn s1 rfl rfl) (fun hb vs W hW => ?_) ?_
  · try simp only [hb, cond_true, cond_false]
    go_simp
    exact loose_call (HL.out W hW)
  simp only [Act.put, List.setIfInBounds_toArray, List.set_cons_zero, List.set_cons_succ, List.nil_append, List.cons_append, Nat.reduceAdd, Leaves.at]
  refine told_val (v := .bool (s1 && q3)) (fun _ => rfl) (fun vs W hW => ?_) ?_
  · cases s1 <;> cases q3 <;> (go_simp; exact loose_val)
  simp only [Act.put, List.setIfInBounds_toArray, List.set_cons_zero, List.set_cons_succ, List.nil_append, List.cons_append, Nat.reduceAdd, Leaves.at]
  generalize (s1 && q3) = s2 at *
  repeat (refine told_val (v := ?_) (fun _ => rfl) (fun vs W hW => ?_) ?_; rotate_left; (focus (have hf := HF.out W hW; clear hW; go_simp; exact loose_val)); simp only [Act.put, List.setIfInBounds_toArray, List.set_cons_zero, List.set_cons_succ, List.nil_append, List.cons_append, Nat.reduceAdd, Leaves.at])
  cases s2 with
  | false =>
    repeat (first | (refine told_off (fun _ => rfl) ?_; simp only [Act.put, List.setIfInBounds_toArray, List.set_cons_zero, List.set_cons_succ, List.nil_append, List.cons_append, Nat.reduceAdd, Leaves.at]) | (refine told_val (v := ?_) (fun _ => rfl) (fun vs W hW => ?_) ?_; rotate_left; (focus (have hf := HF.out W hW; clear hW; go_simp; exact loose_val)); simp only [Act.put, List.setIfInBounds_toArray, List.set_cons_zero, List.set_cons_succ, List.nil_append, List.cons_append, Nat.reduceAdd, Leaves.at]))
    refine told_nil ?_
    intro vs W hW hok hap
    clear hap
    dsimp only
    have HB2 := hid (HB.out.trans (since_below hW HB.out.size))
    clear hok hW
    go_wp2_with fail
    go_ret
    exact ⟨by rw [HE.out]; rfl, HB2.out⟩
  | true =>
    repeat (refine told_val (v := ?_) (fun _ => rfl) (fun vs W hW => ?_) ?_; rotate_left; (focus (have hf := HF.out W hW; clear hW; go_simp; exact loose_val)); simp only [Act.put, List.setIfInBounds_toArray, List.set_cons_zero, List.set_cons_succ, List.nil_append, List.cons_append, Nat.reduceAdd, Leaves.at])
    refine told_rel (LabR (turnF 0 5 d0 d0) (raiseL d0 l0)) LabR.stable (fun _ => rfl) (fun vs W hW hd => ?_) ?_
    · clear hd
      go_simp
      exact loose_callR (raise112 W d0 A0 n0 c0 l0 (H0.out.since_ hW) (by omega))
    simp only [Act.put, List.setIfInBounds_toArray, List.set_cons_zero, List.set_cons_succ, List.nil_append, List.cons_append, Nat.reduceAdd, Leaves.at]
    refine told_rel (LabR (max d1 (turnF 0 5 d0 d0)) (joinL d1 l1 (turnF 0 5 d0 d0) (raiseL d0 l0))) LabR.stable (fun _ => rfl) (fun vs W hW hd => ?_) ?_
    · obtain ⟨P15, m15, k15, e15, hT15⟩ := hd ⟨15, .data⟩ (by simp) rfl _ rfl (fun h => by cases h)
      clear hd
      go_simp
      exact loose_callR (merge45_join W d1 _ A1 P15 n1 c1 m15 k15 l1 _ (H1.out.since_ hW) hT15 (by have := hT15.len; have := raiseL_len d0 l0; have := H0.out.len; omega))
    simp only [Act.put, List.setIfInBounds_toArray, List.set_cons_zero, List.set_cons_succ, List.nil_append, List.cons_append, Nat.reduceAdd, Leaves.at]
    refine told_val' (v := .bool (leqB d2 l2 (max d1 (turnF 0 5 d0 d0)) (joinL d1 l1 (turnF 0 5 d0 d0) (raiseL d0 l0)))) (fun _ => rfl) (fun vs W hW hd => ?_) ?_
    · obtain ⟨P16, m16, k16, e16, hT16⟩ := hd ⟨16, .data⟩ (by simp) rfl _ rfl (fun h => by cases h)
      clear hd
      go_simp
      exact loose_call (leq41_b W _ _ A2 P16 n2 c2 m16 k16 l2 _ (H2.out.since_ hW) hT16 (by have := hT16.len; have := joinL_len d1 l1 (turnF 0 5 d0 d0) (raiseL d0 l0); have := raiseL_len d0 l0; have := H0.out.len; have := H1.out.len; omega))
    simp only [Act.put, List.setIfInBounds_toArray, List.set_cons_zero, List.set_cons_succ, List.nil_append, List.cons_append, Nat.reduceAdd, Leaves.at]
    repeat (refine told_val (v := ?_) (fun _ => rfl) (fun vs W hW => ?_) ?_; rotate_left; (focus (have hf := HF.out W hW; clear hW; go_simp; exact loose_val)); simp only [Act.put, List.setIfInBounds_toArray, List.set_cons_zero, List.set_cons_succ, List.nil_append, List.cons_append, Nat.reduceAdd, Leaves.at])
    refine told_nil ?_
    intro vs W hW hok hap
    clear hap
    dsimp only
    have HB2 := hid (HB.out.trans (since_below hW HB.out.size))
    clear hok hW
    go_wp2_with fail
    go_ret
    exact ⟨by rw [HE.out]; rfl, HB2.out⟩

theorem six_blk (w : World) (a b c d e f : Array Value) (ta tb tc td te tf : TypeId) :
    Below w.heap.size w ((((((w.alloc (.cells a ta)).alloc (.cells b tb)).alloc (.cells c tc)).alloc (.cells d td)).alloc (.cells e te)).alloc (.cells f tf)) ∧
    Blk ((((((w.alloc (.cells a ta)).alloc (.cells b tb)).alloc (.cells c tc)).alloc (.cells d td)).alloc (.cells e te)).alloc (.cells f tf)) w.heap.size ta a ∧
    Blk ((((((w.alloc (.cells a ta)).alloc (.cells b tb)).alloc (.cells c tc)).alloc (.cells d td)).alloc (.cells e te)).alloc (.cells f tf)) (w.heap.size + 1) tb b ∧
    Blk ((((((w.alloc (.cells a ta)).alloc (.cells b tb)).alloc (.cells c tc)).alloc (.cells d td)).alloc (.cells e te)).alloc (.cells f tf)) (w.heap.size + 1 + 1) tc c ∧
    Blk ((((((w.alloc (.cells a ta)).alloc (.cells b tb)).alloc (.cells c tc)).alloc (.cells d td)).alloc (.cells e te)).alloc (.cells f tf)) (w.heap.size + 1 + 1 + 1) td d ∧
    Blk ((((((w.alloc (.cells a ta)).alloc (.cells b tb)).alloc (.cells c tc)).alloc (.cells d td)).alloc (.cells e te)).alloc (.cells f tf)) (w.heap.size + 1 + 1 + 1 + 1) te e ∧
    Blk ((((((w.alloc (.cells a ta)).alloc (.cells b tb)).alloc (.cells c tc)).alloc (.cells d td)).alloc (.cells e te)).alloc (.cells f tf)) (w.heap.size + 1 + 1 + 1 + 1 + 1) tf f := by
  obtain ⟨b4, k1, k2, k3, k4, hs⟩ := four_blk w a b c d ta tb tc td
  obtain ⟨b2, k5, k6⟩ := two_blk ((((w.alloc (.cells a ta)).alloc (.cells b tb)).alloc (.cells c tc)).alloc (.cells d td)) e f te tf
  rw [hs] at k5 k6
  exact ⟨b4.trans (b2.mono b4.size), (k1.alloc _).alloc _, (k2.alloc _).alloc _, (k3.alloc _).alloc _, (k4.alloc _).alloc _, k5, k6⟩
def leastD (d d' : Int) : Int := turnF 5 0 (max (turnF 0 5 d d) (turnF 0 5 d' d')) (max (turnF 0 5 d d) (turnF 0 5 d' d'))
def leastL (d : Int) (l : List (Int × Int)) (d' : Int) (l' : List (Int × Int)) : List (Int × Int) := lowerL (max (turnF 0 5 d d) (turnF 0 5 d' d')) (joinL (turnF 0 5 d d) (raiseL d l) (turnF 0 5 d' d') (raiseL d' l'))
theorem leastL_len (d : Int) (l : List (Int × Int)) (d' : Int) (l' : List (Int × Int)) : (leastL d l d' l').length ≤ 4 * (l.length + l'.length) := by
  have h1 := raiseL_len d l
  have h2 := raiseL_len d' l'
  have h3 := joinL_len (turnF 0 5 d d) (raiseL d l) (turnF 0 5 d' d') (raiseL d' l')
  have h4 := lowerL_len (max (turnF 0 5 d d) (turnF 0 5 d' d')) (joinL (turnF 0 5 d d) (raiseL d l) (turnF 0 5 d' d') (raiseL d' l'))
  unfold leastL
  omega
def entersB (d0 : Int) (l0 : List (Int × Int)) (e0 : Int) (r0 : List (Int × Int)) (d1 : Int) (l1 : List (Int × Int)) (e1 : Int) (r1 : List (Int × Int)) (d2 : Int) (l2 : List (Int × Int)) (e2 : Int) (r2 : List (Int × Int)) : Bool :=
  (whoB d2 l2 e2 r2 && leqB d0 l0 e1 r1) && (leqB (leastD d0 d1) (leastL d0 l0 d1 l1) d2 l2 && (leqB d2 l2 e2 r2 && leqB e2 r2 (max e0 e1) (joinL e0 r0 e1 r1)))

set_option maxHeartbeats 4000000 in
set_option maxRecDepth 100000 in
theorem f66 (w : World) (d0 : Int) (A0 : Option Addr) (n0 c0 : Nat) (l0 : List (Int × Int)) (e0 : Int) (E0 : Option Addr) (m0 k0 : Nat) (r0 : List (Int × Int)) (d1 : Int) (A1 : Option Addr) (n1 c1 : Nat) (l1 : List (Int × Int)) (e1 : Int) (E1 : Option Addr) (m1 k1 : Nat) (r1 : List (Int × Int)) (d2 : Int) (A2 : Option Addr) (n2 c2 : Nat) (l2 : List (Int × Int)) (e2 : Int) (E2 : Option Addr) (m2 k2 : Nat) (r2 : List (Int × Int)) (t0 : CatsAt w w.heap.size A0 n0 c0 l0) (z0 : n0 ≤ 67108864) (u0 : CatsAt w w.heap.size E0 m0 k0 r0) (y0 : m0 ≤ 67108864) (t1 : CatsAt w w.heap.size A1 n1 c1 l1) (z1 : n1 ≤ 67108864) (u1 : CatsAt w w.heap.size E1 m1 k1 r1) (y1 : m1 ≤ 67108864) (t2 : CatsAt w w.heap.size A2 n2 c2 l2) (z2 : n2 ≤ 67108864) (u2 : CatsAt w w.heap.size E2 m2 k2 r2) (y2 : m2 ≤ 67108864) :
    Calls Try.prog 66 #[.agg #[.int .i64 d0, .slice A0 n0 c0, .int .i64 e0, .slice E0 m0 k0], .agg #[.int .i64 d1, .slice A1 n1 c1, .int .i64 e1, .slice E1 m1 k1], .agg #[.int .i64 d2, .slice A2 n2 c2, .int .i64 e2, .slice E2 m2 k2]] w fun e w' => e = .returned (.bool (entersB d0 l0 e0 r0 d1 l1 e1 r1 d2 l2 e2 r2)) ∧ Below w.heap.size w w' := by
  have mixed : Try.prog.follows .mixedOrders = true := by kernel_rfl
  obtain ⟨q0, q1, q2, q3⟩ := three_blk w #[.int .i64 d0, .slice A0 n0 c0, .int .i64 e0, .slice E0 m0 k0] #[.int .i64 d1, .slice A1 n1 c1, .int .i64 e1, .slice E1 m1 k1] #[.int .i64 d2, .slice A2 n2 c2, .int .i64 e2, .slice E2 m2 k2] 43 43 43
  have HB := hid q0
  have HP0 := hid q1
  have HP1 := hid q2
  have HP2 := hid q3
  have H0 := hid ((t0.below q0).more q0.size)
  have G0 := hid ((u0.below q0).more q0.size)
  have H1 := hid ((t1.below q0).more q0.size)
  have G1 := hid ((u1.below q0).more q0.size)
  have H2 := hid ((t2.below q0).more q0.size)
  have G2 := hid ((u2.below q0).more q0.size)
  have HE : Hid ((entersB d0 l0 e0 r0 d1 l1 e1 r1 d2 l2 e2 r2) = ((whoB d2 l2 e2 r2 && risesP [(d0, l0), (e1, r1)]) && risesP [(leastD d0 d1, leastL d0 l0 d1 l1), (d2, l2), (e2, r2), (max e0 e1, joinL e0 r0 e1 r1)])) := by show _ = _; unfold entersB; simp [risesP]
  clear t0 u0 t1 u1 t2 u2 q0 q1 q2 q3
  go_enter Try.func66, Try.ntmps66
  go_wp2_with fail
  generalize ((w.alloc (.cells #[.int .i64 d0, .slice A0 n0 c0, .int .i64 e0, .slice E0 m0 k0] 43)).alloc (.cells #[.int .i64 d1, .slice A1 n1 c1, .int .i64 e1, .slice E1 m1 k1] 43)).alloc (.cells #[.int .i64 d2, .slice A2 n2 c2, .int .i64 e2, .slice E2 m2 k2] 43) = wa at *
  have HF : Hid (∀ W, But nil_ wa W → (W.cell? ⟨w.heap.size, 0, none⟩ = some (.int .i64 d0) ∧ W.cell? ⟨w.heap.size, 1, none⟩ = some (.slice A0 n0 c0) ∧ W.cell? ⟨w.heap.size, 2, none⟩ = some (.int .i64 e0) ∧ W.cell? ⟨w.heap.size, 3, none⟩ = some (.slice E0 m0 k0)) ∧ (W.cell? ⟨w.heap.size + 1, 0, none⟩ = some (.int .i64 d1) ∧ W.cell? ⟨w.heap.size + 1, 1, none⟩ = some (.slice A1 n1 c1) ∧ W.cell? ⟨w.heap.size + 1, 2, none⟩ = some (.int .i64 e1) ∧ W.cell? ⟨w.heap.size + 1, 3, none⟩ = some (.slice E1 m1 k1)) ∧ (W.cell? ⟨w.heap.size + 1 + 1, 0, none⟩ = some (.int .i64 d2) ∧ W.cell? ⟨w.heap.size + 1 + 1, 1, none⟩ = some (.slice A2 n2 c2) ∧ W.cell? ⟨w.heap.size + 1 + 1, 2, none⟩ = some (.int .i64 e2) ∧ W.cell? ⟨w.heap.size + 1 + 1, 3, none⟩ = some (.slice E2 m2 k2))) := fun W hW => ⟨(hW.blk HP0.out (fun h => h)).cells4, (hW.blk HP1.out (fun h => h)).cells4, (hW.blk HP2.out (fun h => h)).cells4⟩
  refine wp_region_told 9 nil_ mixed (by kernel_rfl) ?_
  simp only [List.take_succ_cons, List.take_zero, List.drop_succ_cons, List.drop_zero]
  have HS0 := hid H0.out.len
  have HS1 := hid H1.out.len
  repeat (refine told_val (v := ?_) (fun _ => rfl) (fun vs W hW => ?_) ?_; rotate_left; (focus (have hf := HF.out W hW; clear hW; go_simp; exact loose_val)); simp only [Act.put, List.setIfInBounds_toArray, List.set_cons_zero, List.set_cons_succ, List.nil_append, List.cons_append, Nat.reduceAdd, Leaves.at])
  refine told_rel (LabR (turnF 0 5 d0 d0) (raiseL d0 l0)) LabR.stable (fun _ => rfl) (fun vs W hW hd => ?_) ?_
  · clear hd
    go_simp
    exact loose_callR (raise46_l W d0 A0 n0 c0 l0 (H0.out.since_ hW) (by omega))
  simp only [Act.put, List.setIfInBounds_toArray, List.set_cons_zero, List.set_cons_succ, List.nil_append, List.cons_append, Nat.reduceAdd, Leaves.at]
  repeat (refine told_val (v := ?_) (fun _ => rfl) (fun vs W hW => ?_) ?_; rotate_left; (focus (have hf := HF.out W hW; clear hW; go_simp; exact loose_val)); simp only [Act.put, List.setIfInBounds_toArray, List.set_cons_zero, List.set_cons_succ, List.nil_append, List.cons_append, Nat.reduceAdd, Leaves.at])
  refine told_rel (LabR (turnF 0 5 d1 d1) (raiseL d1 l1)) LabR.stable (fun _ => rfl) (fun vs W hW hd => ?_) ?_
  · clear hd
    go_simp
    exact loose_callR (raise46_l W d1 A1 n1 c1 l1 (H1.out.since_ hW) (by omega))
  simp only [Act.put, List.setIfInBounds_toArray, List.set_cons_zero, List.set_cons_succ, List.nil_append, List.cons_append, Nat.reduceAdd, Leaves.at]
  refine told_rel (LabR (max (turnF 0 5 d0 d0) (turnF 0 5 d1 d1)) (joinL (turnF 0 5 d0 d0) (raiseL d0 l0) (turnF 0 5 d1 d1) (raiseL d1 l1))) LabR.stable (fun _ => rfl) (fun vs W hW hd => ?_) ?_
  · obtain ⟨P2, m2, k2, e2, hT2⟩ := hd ⟨2, .data⟩ (by simp) rfl _ rfl (fun h => by cases h)
    obtain ⟨P5, m5, k5, e5, hT5⟩ := hd ⟨5, .data⟩ (by simp) rfl _ rfl (fun h => by cases h)
    clear hd
    go_simp
    exact loose_callR (join43_l W _ _ P2 P5 m2 k2 m5 k5 _ _ hT2 hT5 (by have := hT2.len; have := hT5.len; have := raiseL_len d0 l0; have := raiseL_len d1 l1; have := HS0.out; have := HS1.out; omega))
  simp only [Act.put, List.setIfInBounds_toArray, List.set_cons_zero, List.set_cons_succ, List.nil_append, List.cons_append, Nat.reduceAdd, Leaves.at]
  refine told_rel (LabR (leastD d0 d1) (leastL d0 l0 d1 l1)) LabR.stable (fun _ => rfl) (fun vs W hW hd => ?_) ?_
  · obtain ⟨P6, m6, k6, e6, hT6⟩ := hd ⟨6, .data⟩ (by simp) rfl _ rfl (fun h => by cases h)
    clear hd
    go_simp
    exact loose_callR (lower48_l W _ P6 m6 k6 _ hT6 (by have := hT6.len; have := joinL_len (turnF 0 5 d0 d0) (raiseL d0 l0) (turnF 0 5 d1 d1) (raiseL d1 l1); have := raiseL_len d0 l0; have := raiseL_len d1 l1; have := HS0.out; have := HS1.out; omega))
  simp only [Act.put, List.setIfInBounds_toArray, List.set_cons_zero, List.set_cons_succ, List.nil_append, List.cons_append, Nat.reduceAdd, Leaves.at]
  refine told_fresh (NewPtr wa.heap.size 26 #[.int .i64 0, .slice none 0 0]) (NewPtr.fresh (fun _ hk => by first | exact hk.elim | (have := hk; omega))) (fun _ => rfl) (fun vs W hW hd => ?_) ?_
  · go_simp
    exact loose_freshPtr hW.size
  simp only [Act.put, List.setIfInBounds_toArray, List.set_cons_zero, List.set_cons_succ, List.nil_append, List.cons_append, Nat.reduceAdd, Leaves.at]
  refine told_nil ?_
  intro vs W hW hok hap
  dsimp only
  obtain ⟨X, nx, cx, e7, hX⟩ := hok 7 _ rfl rfl
  obtain ⟨⟨p, e8, hp, kp⟩, -⟩ := hok 8 _ rfl rfl
  rw [e7, e8]
  have HW := hid hW
  have HX := hid hX
  have KP := hid kp
  obtain ⟨⟨z10, z11⟩, z12, z13⟩ := label_zero kp
  clear hok hap hW hX kp e7 e8
  have HLL := hid (leastL_len d0 l0 d1 l1)
  generalize leastD d0 d1 = dl at *
  generalize leastL d0 l0 d1 l1 = ll at *
  go_wp2_with fail
  obtain ⟨Wp, hwp, K1, BW⟩ := put1 KP.out (.int .i64 dl) (.slice X nx cx)
  rw [hwp]
  have hs := HW.out.size
  have hs2 := BW.size
  have HX2 := hid ((HX.out.keep (Nat.le_refl _) BW fun g hg => by subst hg; exact bare26 KP.out).more hs2)
  have HBp : Hid (Below wa.heap.size wa Wp) := BW.done (since_below HW.out (Nat.le_refl _)) (fun k hk => by subst hk; omega) hs
  have H02 := hid ((H0.out.below HBp.out).more HBp.out.size)
  have G02 := hid ((G0.out.below HBp.out).more HBp.out.size)
  have G12 := hid ((G1.out.below HBp.out).more HBp.out.size)
  have H22 := hid ((H2.out.below HBp.out).more HBp.out.size)
  have G22 := hid ((G2.out.below HBp.out).more HBp.out.size)
  have HQ0 := hid (HP0.out.below HBp.out HP0.out.lt)
  have HQ1 := hid (HP1.out.below HBp.out HP1.out.lt)
  have HQ2 := hid (HP2.out.below HBp.out HP2.out.lt)
  have HB1 := hid (HB.out.trans (HBp.out.mono HB.out.size))
  have K1 := hid K1
  clear hwp BW hs hs2 z10 z11 z12 z13
  have HF2 : Hid (∀ W, But nil_ Wp W → ((W.cell? ⟨w.heap.size, 0, none⟩ = some (.int .i64 d0) ∧ W.cell? ⟨w.heap.size, 1, none⟩ = some (.slice A0 n0 c0) ∧ W.cell? ⟨w.heap.size, 2, none⟩ = some (.int .i64 e0) ∧ W.cell? ⟨w.heap.size, 3, none⟩ = some (.slice E0 m0 k0)) ∧ (W.cell? ⟨w.heap.size + 1, 0, none⟩ = some (.int .i64 d1) ∧ W.cell? ⟨w.heap.size + 1, 1, none⟩ = some (.slice A1 n1 c1) ∧ W.cell? ⟨w.heap.size + 1, 2, none⟩ = some (.int .i64 e1) ∧ W.cell? ⟨w.heap.size + 1, 3, none⟩ = some (.slice E1 m1 k1))) ∧ ((W.cell? ⟨w.heap.size + 1 + 1, 0, none⟩ = some (.int .i64 d2) ∧ W.cell? ⟨w.heap.size + 1 + 1, 1, none⟩ = some (.slice A2 n2 c2) ∧ W.cell? ⟨w.heap.size + 1 + 1, 2, none⟩ = some (.int .i64 e2) ∧ W.cell? ⟨w.heap.size + 1 + 1, 3, none⟩ = some (.slice E2 m2 k2)) ∧ (W.cell? ⟨p, 0, none⟩ = some (.int .i64 dl) ∧ W.cell? ⟨p, 1, none⟩ = some (.slice X nx cx)))) :=
    fun W hW => ⟨⟨(hW.blk HQ0.out (fun h => h)).cells4, (hW.blk HQ1.out (fun h => h)).cells4⟩, (hW.blk HQ2.out (fun h => h)).cells4, (hW.blk K1.out (fun h => h)).cells2⟩
  have HPU := hid (fun W (hW : But nil_ Wp W) => f115 W d2 A2 n2 c2 l2 e2 E2 m2 k2 r2 (H22.out.since_ hW) z2 (G22.out.since_ hW) y2)
  generalize whoB d2 l2 e2 r2 = q at *
  obtain ⟨pp, hpp⟩ : ∃ pp, risesP [(d0, l0), (e1, r1)] = pp := ⟨_, rfl⟩
  rw [hpp] at HE
  have HPP := hid hpp
  clear hpp
  refine wp_region_told 25 nil_ mixed (by kernel_rfl) ?_
  simp only [List.take_succ_cons, List.take_zero, List.drop_succ_cons, List.drop_zero]
  repeat (refine told_val (v := ?_) (fun _ => rfl) (fun vs W hW => ?_) ?_; rotate_left; (focus (have hf := HF2.out W hW; clear hW; go_simp; exact loose_val)); simp only [Act.put, List.setIfInBounds_toArray, List.set_cons_zero, List.set_cons_succ, List.nil_append, List.cons_append, Nat.reduceAdd, Leaves.at])
  refine told_val (v := .bool q) (fun _ => rfl) (fun vs W hW => ?_) ?_
  · go_simp
    exact loose_call (HPU.out W hW)
  simp only [Act.put, List.setIfInBounds_toArray, List.set_cons_zero, List.set_cons_succ, List.nil_append, List.cons_append, Nat.reduceAdd, Leaves.at]
  repeat (refine told_val (v := ?_) (fun _ => rfl) (fun vs W hW => ?_) ?_; rotate_left; (focus (have hf := HF2.out W hW; clear hW; go_simp; exact loose_val)); simp only [Act.put, List.setIfInBounds_toArray, List.set_cons_zero, List.set_cons_succ, List.nil_append, List.cons_append, Nat.reduceAdd, Leaves.at])
  cases q with
  | false =>
    repeat (first | (refine told_off (fun _ => rfl) ?_; simp only [Act.put, List.setIfInBounds_toArray, List.set_cons_zero, List.set_cons_succ, List.nil_append, List.cons_append, Nat.reduceAdd, Leaves.at]) | (refine told_val (v := ?_) (fun _ => rfl) (fun vs W hW => ?_) ?_; rotate_left; (focus (have hf := HF2.out W hW; clear hW; go_simp; exact loose_val)); simp only [Act.put, List.setIfInBounds_toArray, List.set_cons_zero, List.set_cons_succ, List.nil_append, List.cons_append, Nat.reduceAdd, Leaves.at]))
    refine told_nil ?_
    intro vs W2 hW2 hok hap
    clear hap
    dsimp only
    have HB2 := hid (HB1.out.trans (since_below hW2 HB1.out.size))
    clear hok hW2
    go_wp2_with fail
    go_ret
    exact ⟨by rw [HE.out]; rfl, HB2.out⟩
  | true =>
    repeat (refine told_val (v := ?_) (fun _ => rfl) (fun vs W hW => ?_) ?_; rotate_left; (focus (have hf := HF2.out W hW; clear hW; go_simp; exact loose_val)); simp only [Act.put, List.setIfInBounds_toArray, List.set_cons_zero, List.set_cons_succ, List.nil_append, List.cons_append, Nat.reduceAdd, Leaves.at])
    refine told_rel (LabsR [(d0, l0), (e1, r1)]) LabsR.stable (fun _ => rfl) (fun vs W hW hd => ?_) ?_
    · clear hd
      have hf := HF2.out W hW
      have hmem := hid (List.forall_mem_cons.2 ⟨H02.out.since_ hW, List.forall_mem_cons.2 ⟨G12.out.since_ hW, fun _ h => nomatch h⟩⟩ : ∀ l ∈ [(⟨d0, A0, n0, c0, l0⟩ : LabV), (⟨e1, E1, m1, k1, r1⟩ : LabV)], l.at_ W)
      clear hW
      go_simp
      exact loose_labs _ hmem.out
    simp only [Act.put, List.setIfInBounds_toArray, List.set_cons_zero, List.set_cons_succ, List.nil_append, List.cons_append, Nat.reduceAdd, Leaves.at]
    refine told_val' (v := .bool pp) (fun _ => rfl) (fun vs W hW hd => ?_) ?_
    · have hl := hd ⟨7, .data⟩ (by simp) rfl _ rfl (fun h => by cases h)
      have hr := rises_R hl (by simp) (by simp)
      rw [HPP.out] at hr
      have hr := hid hr
      clear hd hl
      go_simp
      exact loose_call hr.out
    simp only [Act.put, List.setIfInBounds_toArray, List.set_cons_zero, List.set_cons_succ, List.nil_append, List.cons_append, Nat.reduceAdd, Leaves.at]
    repeat (refine told_val (v := ?_) (fun _ => rfl) (fun vs W hW => ?_) ?_; rotate_left; (focus (have hf := HF2.out W hW; clear hW; go_simp; exact loose_val)); simp only [Act.put, List.setIfInBounds_toArray, List.set_cons_zero, List.set_cons_succ, List.nil_append, List.cons_append, Nat.reduceAdd, Leaves.at])
    cases pp with
    | false =>
      repeat (first | (refine told_off (fun _ => rfl) ?_; simp only [Act.put, List.setIfInBounds_toArray, List.set_cons_zero, List.set_cons_succ, List.nil_append, List.cons_append, Nat.reduceAdd, Leaves.at]) | (refine told_val (v := ?_) (fun _ => rfl) (fun vs W hW => ?_) ?_; rotate_left; (focus (have hf := HF2.out W hW; clear hW; go_simp; exact loose_val)); simp only [Act.put, List.setIfInBounds_toArray, List.set_cons_zero, List.set_cons_succ, List.nil_append, List.cons_append, Nat.reduceAdd, Leaves.at]))
      refine told_nil ?_
      intro vs W2 hW2 hok hap
      clear hap
      dsimp only
      have HB2 := hid (HB1.out.trans (since_below hW2 HB1.out.size))
      clear hok hW2
      go_wp2_with fail
      go_ret
      exact ⟨by rw [HE.out]; rfl, HB2.out⟩
    | true =>
      repeat (refine told_val (v := ?_) (fun _ => rfl) (fun vs W hW => ?_) ?_; rotate_left; (focus (have hf := HF2.out W hW; clear hW; go_simp; exact loose_val)); simp only [Act.put, List.setIfInBounds_toArray, List.set_cons_zero, List.set_cons_succ, List.nil_append, List.cons_append, Nat.reduceAdd, Leaves.at])
      refine told_rel (LabR (max e0 e1) (joinL e0 r0 e1 r1)) LabR.stable (fun _ => rfl) (fun vs W hW hd => ?_) ?_
      · clear hd
        go_simp
        exact loose_callR (join43_l W e0 e1 E0 E1 m0 k0 m1 k1 r0 r1 (G02.out.since_ hW) (G12.out.since_ hW) (by omega))
      simp only [Act.put, List.setIfInBounds_toArray, List.set_cons_zero, List.set_cons_succ, List.nil_append, List.cons_append, Nat.reduceAdd, Leaves.at]
      refine told_rel (LabsR [(dl, ll), (d2, l2), (e2, r2), (max e0 e1, joinL e0 r0 e1 r1)]) LabsR.stable (fun _ => rfl) (fun vs W hW hd => ?_) ?_
      · obtain ⟨P20, m20', k20', e20', hT20⟩ := hd ⟨20, .data⟩ (by simp) rfl _ rfl (fun h => by cases h)
        clear hd
        have hf := HF2.out W hW
        have hmem := hid (List.forall_mem_cons.2 ⟨HX2.out.since_ hW, List.forall_mem_cons.2 ⟨H22.out.since_ hW, List.forall_mem_cons.2 ⟨G22.out.since_ hW, List.forall_mem_cons.2 ⟨hT20, fun _ h => nomatch h⟩⟩⟩⟩ : ∀ l ∈ [(⟨dl, X, nx, cx, ll⟩ : LabV), (⟨d2, A2, n2, c2, l2⟩ : LabV), (⟨e2, E2, m2, k2, r2⟩ : LabV), (⟨max e0 e1, P20, m20', k20', joinL e0 r0 e1 r1⟩ : LabV)], l.at_ W)
        clear hW
        go_simp
        exact loose_labs _ hmem.out
      simp only [Act.put, List.setIfInBounds_toArray, List.set_cons_zero, List.set_cons_succ, List.nil_append, List.cons_append, Nat.reduceAdd, Leaves.at]
      refine told_val' (v := .bool (risesP [(dl, ll), (d2, l2), (e2, r2), (max e0 e1, joinL e0 r0 e1 r1)])) (fun _ => rfl) (fun vs W hW hd => ?_) ?_
      · have hl := hd ⟨21, .data⟩ (by simp) rfl _ rfl (fun h => by cases h)
        have hr := hid (rises_R hl (by simp) (by simp))
        clear hd hl
        go_simp
        exact loose_call hr.out
      simp only [Act.put, List.setIfInBounds_toArray, List.set_cons_zero, List.set_cons_succ, List.nil_append, List.cons_append, Nat.reduceAdd, Leaves.at]
      repeat (refine told_val (v := ?_) (fun _ => rfl) (fun vs W hW => ?_) ?_; rotate_left; (focus (have hf := HF2.out W hW; clear hW; go_simp; exact loose_val)); simp only [Act.put, List.setIfInBounds_toArray, List.set_cons_zero, List.set_cons_succ, List.nil_append, List.cons_append, Nat.reduceAdd, Leaves.at])
      refine told_nil ?_
      intro vs W2 hW2 hok hap
      clear hap
      dsimp only
      have HB2 := hid (HB1.out.trans (since_below hW2 HB1.out.size))
      clear hok hW2
      go_wp2_with fail
      go_ret
      exact ⟨by rw [HE.out]; rfl, HB2.out⟩

set_option maxHeartbeats 4000000 in
set_option maxRecDepth 100000 in
theorem f67 (w : World) (d0 : Int) (A0 : Option Addr) (n0 c0 : Nat) (l0 : List (Int × Int)) (d1 : Int) (A1 : Option Addr) (n1 c1 : Nat) (l1 : List (Int × Int)) (d2 : Int) (A2 : Option Addr) (n2 c2 : Nat) (l2 : List (Int × Int)) (d3 : Int) (A3 : Option Addr) (n3 c3 : Nat) (l3 : List (Int × Int)) (d4 : Int) (A4 : Option Addr) (n4 c4 : Nat) (l4 : List (Int × Int)) (d5 : Int) (A5 : Option Addr) (n5 c5 : Nat) (l5 : List (Int × Int)) (t0 : CatsAt w w.heap.size A0 n0 c0 l0) (z0 : n0 ≤ 67108864) (t1 : CatsAt w w.heap.size A1 n1 c1 l1) (z1 : n1 ≤ 67108864) (t2 : CatsAt w w.heap.size A2 n2 c2 l2) (z2 : n2 ≤ 67108864) (t3 : CatsAt w w.heap.size A3 n3 c3 l3) (z3 : n3 ≤ 67108864) (t4 : CatsAt w w.heap.size A4 n4 c4 l4) (z4 : n4 ≤ 67108864) (t5 : CatsAt w w.heap.size A5 n5 c5 l5) (z5 : n5 ≤ 67108864) :
    Calls Try.prog 67 #[.agg #[.int .i64 d0, .slice A0 n0 c0], .agg #[.int .i64 d1, .slice A1 n1 c1], .agg #[.int .i64 d2, .slice A2 n2 c2], .agg #[.int .i64 d3, .slice A3 n3 c3], .agg #[.int .i64 d4, .slice A4 n4 c4], .agg #[.int .i64 d5, .slice A5 n5 c5]] w fun e w' => e = .returned (.bool (entersB d0 l0 d1 l1 d2 l2 d3 l3 d4 l4 d5 l5)) ∧ Below w.heap.size w w' := by
  have mixed : Try.prog.follows .mixedOrders = true := by kernel_rfl
  obtain ⟨q0, q1, q2, q3, q4, q5, q6⟩ := six_blk w #[.int .i64 d0, .slice A0 n0 c0] #[.int .i64 d1, .slice A1 n1 c1] #[.int .i64 d2, .slice A2 n2 c2] #[.int .i64 d3, .slice A3 n3 c3] #[.int .i64 d4, .slice A4 n4 c4] #[.int .i64 d5, .slice A5 n5 c5] 26 26 26 26 26 26
  have HB := hid q0
  have HP0 := hid q1
  have HP1 := hid q2
  have HP2 := hid q3
  have HP3 := hid q4
  have HP4 := hid q5
  have HP5 := hid q6
  have H0 := hid ((t0.below q0).more q0.size)
  have H1 := hid ((t1.below q0).more q0.size)
  have H2 := hid ((t2.below q0).more q0.size)
  have H3 := hid ((t3.below q0).more q0.size)
  have H4 := hid ((t4.below q0).more q0.size)
  have H5 := hid ((t5.below q0).more q0.size)
  have HE : Hid ((entersB d0 l0 d1 l1 d2 l2 d3 l3 d4 l4 d5 l5) = ((!((((!(rightB d4 l4)) || (!(rightB d5 l5))) || (!(pureD d5 l5))) || (!(leqB d0 l0 d3 l3)))) && ((leqB (leastD d0 d2) (leastL d0 l0 d2 l2) d4 l4 && leqB d4 l4 d5 l5) && leqB d5 l5 (max d1 d3) (joinL d1 l1 d3 l3)))) := by show _ = _; unfold entersB whoB; rw [← pure_both]; simp [Bool.and_assoc]
  clear t0 t1 t2 t3 t4 t5 q0 q1 q2 q3 q4 q5 q6
  go_enter Try.func67, Try.ntmps67
  go_wp2_with (refine wp_list_told 19 19 nil_ rfl (by decide) ?_)
  generalize (((((w.alloc (.cells #[.int .i64 d0, .slice A0 n0 c0] 26)).alloc (.cells #[.int .i64 d1, .slice A1 n1 c1] 26)).alloc (.cells #[.int .i64 d2, .slice A2 n2 c2] 26)).alloc (.cells #[.int .i64 d3, .slice A3 n3 c3] 26)).alloc (.cells #[.int .i64 d4, .slice A4 n4 c4] 26)).alloc (.cells #[.int .i64 d5, .slice A5 n5 c5] 26) = wa at *
  have HF : Hid (∀ W, But nil_ wa W → (W.cell? ⟨w.heap.size, 0, none⟩ = some (.int .i64 d0) ∧ W.cell? ⟨w.heap.size, 1, none⟩ = some (.slice A0 n0 c0)) ∧ (W.cell? ⟨w.heap.size + 1, 0, none⟩ = some (.int .i64 d1) ∧ W.cell? ⟨w.heap.size + 1, 1, none⟩ = some (.slice A1 n1 c1)) ∧ (W.cell? ⟨w.heap.size + 1 + 1, 0, none⟩ = some (.int .i64 d2) ∧ W.cell? ⟨w.heap.size + 1 + 1, 1, none⟩ = some (.slice A2 n2 c2)) ∧ (W.cell? ⟨w.heap.size + 1 + 1 + 1, 0, none⟩ = some (.int .i64 d3) ∧ W.cell? ⟨w.heap.size + 1 + 1 + 1, 1, none⟩ = some (.slice A3 n3 c3)) ∧ (W.cell? ⟨w.heap.size + 1 + 1 + 1 + 1, 0, none⟩ = some (.int .i64 d4) ∧ W.cell? ⟨w.heap.size + 1 + 1 + 1 + 1, 1, none⟩ = some (.slice A4 n4 c4)) ∧ (W.cell? ⟨w.heap.size + 1 + 1 + 1 + 1 + 1, 0, none⟩ = some (.int .i64 d5) ∧ W.cell? ⟨w.heap.size + 1 + 1 + 1 + 1 + 1, 1, none⟩ = some (.slice A5 n5 c5))) := fun W hW => ⟨(hW.blk HP0.out (fun h => h)).cells2, (hW.blk HP1.out (fun h => h)).cells2, (hW.blk HP2.out (fun h => h)).cells2, (hW.blk HP3.out (fun h => h)).cells2, (hW.blk HP4.out (fun h => h)).cells2, (hW.blk HP5.out (fun h => h)).cells2⟩
  try simp only [List.take_succ_cons, List.take_zero, List.drop_succ_cons, List.drop_zero]
  have HA := hid (fun W (hW : But nil_ wa W) => right52 W d4 A4 n4 c4 l4 (H4.out.since_ hW))
  have HB_ := hid (fun W (hW : But nil_ wa W) => right52 W d5 A5 n5 c5 l5 (H5.out.since_ hW))
  have HU := hid (fun W (hW : But nil_ wa W) => pure114 W d5 A5 n5 c5 l5 (H5.out.since_ hW))
  have HL := hid (fun W (hW : But nil_ wa W) => leq41_b W d0 d3 A0 A3 n0 c0 n3 c3 l0 l3 (H0.out.since_ hW) (H3.out.since_ hW) (by omega))
  have HS0 := hid H0.out.len
  have HS2 := hid H2.out.len
  have HS1 := hid H1.out.len
  have HS3 := hid H3.out.len
  have HLL := hid (leastL_len d0 l0 d2 l2)
  generalize rightB d4 l4 = q1 at *
  generalize rightB d5 l5 = q2 at *
  generalize pureD d5 l5 = q3 at *
  generalize leqB d0 l0 d3 l3 = q4 at *
  repeat (refine told_val (v := ?_) (fun _ => rfl) (fun vs W hW => ?_) ?_; rotate_left; (focus (have hf := HF.out W hW; clear hW; go_simp; exact loose_val)); simp only [Act.put, List.setIfInBounds_toArray, List.set_cons_zero, List.set_cons_succ, List.nil_append, List.cons_append, Nat.reduceAdd, Leaves.at])
  refine told_val (v := .bool q1) (fun _ => rfl) (fun vs W hW => ?_) ?_
  · go_simp
    exact loose_call (HA.out W hW)
  simp only [Act.put, List.setIfInBounds_toArray, List.set_cons_zero, List.set_cons_succ, List.nil_append, List.cons_append, Nat.reduceAdd, Leaves.at]
  repeat (refine told_val (v := ?_) (fun _ => rfl) (fun vs W hW => ?_) ?_; rotate_left; (focus (have hf := HF.out W hW; clear hW; go_simp; exact loose_val)); simp only [Act.put, List.setIfInBounds_toArray, List.set_cons_zero, List.set_cons_succ, List.nil_append, List.cons_append, Nat.reduceAdd, Leaves.at])
  generalize (!q1) = g1 at *
  repeat (refine told_not (b := g1) (v := ?_) (fun _ => Bool.casesOn g1 rfl rfl) (fun hb vs W hW => ?_) ?_; rotate_left; (focus (have hf := HF.out W hW; clear hW; (try simp only [hb, cond_true, cond_false]); go_simp; exact loose_val)); simp only [Act.put, List.setIfInBounds_toArray, List.set_cons_zero, List.set_cons_succ, List.nil_append, List.cons_append, Nat.reduceAdd, Leaves.at])
  refine told_not (b := g1) (v := .bool q2) (fun _ => Bool.casesOn g1 rfl rfl) (fun hb vs W hW => ?_) ?_
  · try simp only [hb, cond_true, cond_false]
    go_simp
    exact loose_call (HB_.out W hW)
  simp only [Act.put, List.setIfInBounds_toArray, List.set_cons_zero, List.set_cons_succ, List.nil_append, List.cons_append, Nat.reduceAdd, Leaves.at]
  repeat (refine told_not (b := g1) (v := ?_) (fun _ => Bool.casesOn g1 rfl rfl) (fun hb vs W hW => ?_) ?_; rotate_left; (focus (have hf := HF.out W hW; clear hW; (try simp only [hb, cond_true, cond_false]); go_simp; exact loose_val)); simp only [Act.put, List.setIfInBounds_toArray, List.set_cons_zero, List.set_cons_succ, List.nil_append, List.cons_append, Nat.reduceAdd, Leaves.at])
  refine told_val (v := .bool (g1 || !q2)) (fun _ => rfl) (fun vs W hW => ?_) ?_
  · cases g1 <;> cases q2 <;> (go_simp; exact loose_val)
  simp only [Act.put, List.setIfInBounds_toArray, List.set_cons_zero, List.set_cons_succ, List.nil_append, List.cons_append, Nat.reduceAdd, Leaves.at]
  generalize (g1 || !q2) = g2 at *
  repeat (refine told_val (v := ?_) (fun _ => rfl) (fun vs W hW => ?_) ?_; rotate_left; (focus (have hf := HF.out W hW; clear hW; go_simp; exact loose_val)); simp only [Act.put, List.setIfInBounds_toArray, List.set_cons_zero, List.set_cons_succ, List.nil_append, List.cons_append, Nat.reduceAdd, Leaves.at])
  repeat (refine told_not (b := g2) (v := ?_) (fun _ => Bool.casesOn g2 rfl rfl) (fun hb vs W hW => ?_) ?_; rotate_left; (focus (have hf := HF.out W hW; clear hW; (try simp only [hb, cond_true, cond_false]); go_simp; exact loose_val)); simp only [Act.put, List.setIfInBounds_toArray, List.set_cons_zero, List.set_cons_succ, List.nil_append, List.cons_append, Nat.reduceAdd, Leaves.at])
  refine told_not (b := g2) (v := .bool q3) (fun _ => Bool.casesOn g2 rfl rfl) (fun hb vs W hW => ?_) ?_
  · try simp only [hb, cond_true, cond_false]
    go_simp
    exact loose_call (HU.out W hW)
  simp only [Act.put, List.setIfInBounds_toArray, List.set_cons_zero, List.set_cons_succ, List.nil_append, List.cons_append, Nat.reduceAdd, Leaves.at]
  repeat (refine told_not (b := g2) (v := ?_) (fun _ => Bool.casesOn g2 rfl rfl) (fun hb vs W hW => ?_) ?_; rotate_left; (focus (have hf := HF.out W hW; clear hW; (try simp only [hb, cond_true, cond_false]); go_simp; exact loose_val)); simp only [Act.put, List.setIfInBounds_toArray, List.set_cons_zero, List.set_cons_succ, List.nil_append, List.cons_append, Nat.reduceAdd, Leaves.at])
  refine told_val (v := .bool (g2 || !q3)) (fun _ => rfl) (fun vs W hW => ?_) ?_
  · cases g2 <;> cases q3 <;> (go_simp; exact loose_val)
  simp only [Act.put, List.setIfInBounds_toArray, List.set_cons_zero, List.set_cons_succ, List.nil_append, List.cons_append, Nat.reduceAdd, Leaves.at]
  generalize (g2 || !q3) = g3 at *
  repeat (refine told_val (v := ?_) (fun _ => rfl) (fun vs W hW => ?_) ?_; rotate_left; (focus (have hf := HF.out W hW; clear hW; go_simp; exact loose_val)); simp only [Act.put, List.setIfInBounds_toArray, List.set_cons_zero, List.set_cons_succ, List.nil_append, List.cons_append, Nat.reduceAdd, Leaves.at])
  repeat (refine told_not (b := g3) (v := ?_) (fun _ => Bool.casesOn g3 rfl rfl) (fun hb vs W hW => ?_) ?_; rotate_left; (focus (have hf := HF.out W hW; clear hW; (try simp only [hb, cond_true, cond_false]); go_simp; exact loose_val)); simp only [Act.put, List.setIfInBounds_toArray, List.set_cons_zero, List.set_cons_succ, List.nil_append, List.cons_append, Nat.reduceAdd, Leaves.at])
  refine told_not (b := g3) (v := .bool q4) (fun _ => Bool.casesOn g3 rfl rfl) (fun hb vs W hW => ?_) ?_
  · try simp only [hb, cond_true, cond_false]
    go_simp
    exact loose_call (HL.out W hW)
  simp only [Act.put, List.setIfInBounds_toArray, List.set_cons_zero, List.set_cons_succ, List.nil_append, List.cons_append, Nat.reduceAdd, Leaves.at]
  repeat (refine told_not (b := g3) (v := ?_) (fun _ => Bool.casesOn g3 rfl rfl) (fun hb vs W hW => ?_) ?_; rotate_left; (focus (have hf := HF.out W hW; clear hW; (try simp only [hb, cond_true, cond_false]); go_simp; exact loose_val)); simp only [Act.put, List.setIfInBounds_toArray, List.set_cons_zero, List.set_cons_succ, List.nil_append, List.cons_append, Nat.reduceAdd, Leaves.at])
  refine told_val (v := .bool (g3 || !q4)) (fun _ => rfl) (fun vs W hW => ?_) ?_
  · cases g3 <;> cases q4 <;> (go_simp; exact loose_val)
  simp only [Act.put, List.setIfInBounds_toArray, List.set_cons_zero, List.set_cons_succ, List.nil_append, List.cons_append, Nat.reduceAdd, Leaves.at]
  generalize (g3 || !q4) = g4 at *
  refine told_nil ?_
  intro vs W1 hW1 hok hap
  clear hap
  dsimp only
  have HW1 := hid hW1
  have HB1 := hid (HB.out.trans (since_below hW1 HB.out.size))
  have HF1 := hid (fun W (hW : But nil_ W1 W) => HF.out W (HW1.out.trans hW))
  clear hok hW1
  cases g4 with
  | true =>
    go_wp2_with fail
    go_ret
    exact ⟨by rw [HE.out]; rfl, HB1.out⟩
  | false =>
    go_wp2_with fail
    refine wp_region_told 7 nil_ mixed (by kernel_rfl) ?_
    simp only [List.take_succ_cons, List.take_zero, List.drop_succ_cons, List.drop_zero]
    repeat (refine told_val (v := ?_) (fun _ => rfl) (fun vs W hW => ?_) ?_; rotate_left; (focus (have hf := HF1.out W hW; clear hW; go_simp; exact loose_val)); simp only [Act.put, List.setIfInBounds_toArray, List.set_cons_zero, List.set_cons_succ, List.nil_append, List.cons_append, Nat.reduceAdd, Leaves.at])
    refine told_rel (LabR (turnF 0 5 d0 d0) (raiseL d0 l0)) LabR.stable (fun _ => rfl) (fun vs W hW hd => ?_) ?_
    · clear hd
      go_simp
      exact loose_callR (raise112 W d0 A0 n0 c0 l0 (H0.out.since_ (HW1.out.trans hW)) (by omega))
    simp only [Act.put, List.setIfInBounds_toArray, List.set_cons_zero, List.set_cons_succ, List.nil_append, List.cons_append, Nat.reduceAdd, Leaves.at]
    repeat (refine told_val (v := ?_) (fun _ => rfl) (fun vs W hW => ?_) ?_; rotate_left; (focus (have hf := HF1.out W hW; clear hW; go_simp; exact loose_val)); simp only [Act.put, List.setIfInBounds_toArray, List.set_cons_zero, List.set_cons_succ, List.nil_append, List.cons_append, Nat.reduceAdd, Leaves.at])
    refine told_rel (LabR (turnF 0 5 d2 d2) (raiseL d2 l2)) LabR.stable (fun _ => rfl) (fun vs W hW hd => ?_) ?_
    · clear hd
      go_simp
      exact loose_callR (raise112 W d2 A2 n2 c2 l2 (H2.out.since_ (HW1.out.trans hW)) (by omega))
    simp only [Act.put, List.setIfInBounds_toArray, List.set_cons_zero, List.set_cons_succ, List.nil_append, List.cons_append, Nat.reduceAdd, Leaves.at]
    refine told_rel (LabR (max (turnF 0 5 d0 d0) (turnF 0 5 d2 d2)) (joinL (turnF 0 5 d0 d0) (raiseL d0 l0) (turnF 0 5 d2 d2) (raiseL d2 l2))) LabR.stable (fun _ => rfl) (fun vs W hW hd => ?_) ?_
    · obtain ⟨P1, m1, k1, e1, hT1⟩ := hd ⟨1, .data⟩ (by simp) rfl _ rfl (fun h => by cases h)
      obtain ⟨P3, m3, k3, e3, hT3⟩ := hd ⟨3, .data⟩ (by simp) rfl _ rfl (fun h => by cases h)
      clear hd
      go_simp
      exact loose_callR (merge45_join W _ _ P1 P3 m1 k1 m3 k3 _ _ hT1 hT3 (by have := hT1.len; have := hT3.len; have := raiseL_len d0 l0; have := raiseL_len d2 l2; have := HS0.out; have := HS2.out; omega))
    simp only [Act.put, List.setIfInBounds_toArray, List.set_cons_zero, List.set_cons_succ, List.nil_append, List.cons_append, Nat.reduceAdd, Leaves.at]
    refine told_rel (LabR (leastD d0 d2) (leastL d0 l0 d2 l2)) LabR.stable (fun _ => rfl) (fun vs W hW hd => ?_) ?_
    · obtain ⟨P4, m4, k4, e4, hT4⟩ := hd ⟨4, .data⟩ (by simp) rfl _ rfl (fun h => by cases h)
      clear hd
      go_simp
      exact loose_callR (turn47_lower W _ P4 m4 k4 _ hT4 (by have := hT4.len; have := joinL_len (turnF 0 5 d0 d0) (raiseL d0 l0) (turnF 0 5 d2 d2) (raiseL d2 l2); have := raiseL_len d0 l0; have := raiseL_len d2 l2; have := HS0.out; have := HS2.out; omega))
    simp only [Act.put, List.setIfInBounds_toArray, List.set_cons_zero, List.set_cons_succ, List.nil_append, List.cons_append, Nat.reduceAdd, Leaves.at]
    refine told_fresh (NewPtr W1.heap.size 26 #[.int .i64 0, .slice none 0 0]) (NewPtr.fresh (fun _ hk => by first | exact hk.elim | (have := hk; omega))) (fun _ => rfl) (fun vs W hW hd => ?_) ?_
    · go_simp
      exact loose_freshPtr hW.size
    simp only [Act.put, List.setIfInBounds_toArray, List.set_cons_zero, List.set_cons_succ, List.nil_append, List.cons_append, Nat.reduceAdd, Leaves.at]
    refine told_nil ?_
    intro vs W hW hok hap
    dsimp only
    obtain ⟨X, nx, cx, e7, hX⟩ := hok 5 _ rfl rfl
    obtain ⟨⟨p, e8, hp, kp⟩, -⟩ := hok 6 _ rfl rfl
    rw [e7, e8]
    have HW := hid hW
    have HX := hid hX
    have KP := hid kp
    obtain ⟨⟨z10, z11⟩, z12, z13⟩ := label_zero kp
    clear hok hap hW hX kp e7 e8
    generalize leastD d0 d2 = dl at *
    generalize leastL d0 l0 d2 l2 = ll at *
    go_wp2_with fail
    obtain ⟨Wp, hwp, K1, BW⟩ := put1 KP.out (.int .i64 dl) (.slice X nx cx)
    rw [hwp]
    have hs := HW.out.size
    have hs2 := BW.size
    have hs1 := HW1.out.size
    have HX2 := hid ((HX.out.keep (Nat.le_refl _) BW fun g hg => by subst hg; exact bare26 KP.out).more hs2)
    have HBp : Hid (Below wa.heap.size wa Wp) := BW.done (since_below (HW1.out.trans HW.out) (Nat.le_refl _)) (fun k hk => by subst hk; omega) (by omega)
    have H12 := hid ((H1.out.below HBp.out).more HBp.out.size)
    have H32 := hid ((H3.out.below HBp.out).more HBp.out.size)
    have H42 := hid ((H4.out.below HBp.out).more HBp.out.size)
    have H52 := hid ((H5.out.below HBp.out).more HBp.out.size)
    have HQ1 := hid (HP1.out.below HBp.out HP1.out.lt)
    have HQ3 := hid (HP3.out.below HBp.out HP3.out.lt)
    have HQ4 := hid (HP4.out.below HBp.out HP4.out.lt)
    have HQ5 := hid (HP5.out.below HBp.out HP5.out.lt)
    have HB3 := hid (HB.out.trans (HBp.out.mono HB.out.size))
    have HNX := hid HX.out.len
    have K1 := hid K1
    clear hwp BW hs hs2 z10 z11 z12 z13
    have HF2 : Hid (∀ W, But nil_ Wp W → ((W.cell? ⟨w.heap.size + 1, 0, none⟩ = some (.int .i64 d1) ∧ W.cell? ⟨w.heap.size + 1, 1, none⟩ = some (.slice A1 n1 c1)) ∧ (W.cell? ⟨w.heap.size + 1 + 1 + 1, 0, none⟩ = some (.int .i64 d3) ∧ W.cell? ⟨w.heap.size + 1 + 1 + 1, 1, none⟩ = some (.slice A3 n3 c3))) ∧ (((W.cell? ⟨w.heap.size + 1 + 1 + 1 + 1, 0, none⟩ = some (.int .i64 d4) ∧ W.cell? ⟨w.heap.size + 1 + 1 + 1 + 1, 1, none⟩ = some (.slice A4 n4 c4)) ∧ (W.cell? ⟨w.heap.size + 1 + 1 + 1 + 1 + 1, 0, none⟩ = some (.int .i64 d5) ∧ W.cell? ⟨w.heap.size + 1 + 1 + 1 + 1 + 1, 1, none⟩ = some (.slice A5 n5 c5))) ∧ (W.cell? ⟨p, 0, none⟩ = some (.int .i64 dl) ∧ W.cell? ⟨p, 1, none⟩ = some (.slice X nx cx)))) :=
      fun W hW => ⟨⟨(hW.blk HQ1.out (fun h => h)).cells2, (hW.blk HQ3.out (fun h => h)).cells2⟩, ⟨(hW.blk HQ4.out (fun h => h)).cells2, (hW.blk HQ5.out (fun h => h)).cells2⟩, (hW.blk K1.out (fun h => h)).cells2⟩
    have HL1 := hid (fun W (hW : But nil_ Wp W) => leq41_b W dl d4 X A4 nx cx n4 c4 ll l4 (HX2.out.since_ hW) (H42.out.since_ hW) (by have := HNX.out; have := HLL.out; have := HS0.out; have := HS2.out; omega))
    have HL2 := hid (fun W (hW : But nil_ Wp W) => leq41_b W d4 d5 A4 A5 n4 c4 n5 c5 l4 l5 (H42.out.since_ hW) (H52.out.since_ hW) (by omega))
    generalize leqB dl ll d4 l4 = r1 at *
    generalize leqB d4 l4 d5 l5 = r2 at *
    refine wp_region_told 16 nil_ mixed (by kernel_rfl) ?_
    simp only [List.take_succ_cons, List.take_zero, List.drop_succ_cons, List.drop_zero]
    repeat (refine told_val (v := ?_) (fun _ => rfl) (fun vs W hW => ?_) ?_; rotate_left; (focus (have hf := HF2.out W hW; clear hW; go_simp; exact loose_val)); simp only [Act.put, List.setIfInBounds_toArray, List.set_cons_zero, List.set_cons_succ, List.nil_append, List.cons_append, Nat.reduceAdd, Leaves.at])
    refine told_val (v := .bool r1) (fun _ => rfl) (fun vs W hW => ?_) ?_
    · go_simp
      exact loose_call (HL1.out W hW)
    simp only [Act.put, List.setIfInBounds_toArray, List.set_cons_zero, List.set_cons_succ, List.nil_append, List.cons_append, Nat.reduceAdd, Leaves.at]
    repeat (refine told_val (v := ?_) (fun _ => rfl) (fun vs W hW => ?_) ?_; rotate_left; (focus (have hf := HF2.out W hW; clear hW; go_simp; exact loose_val)); simp only [Act.put, List.setIfInBounds_toArray, List.set_cons_zero, List.set_cons_succ, List.nil_append, List.cons_append, Nat.reduceAdd, Leaves.at])
    repeat (refine told_maybe (b := r1) (v := ?_) (fun _ => Bool.casesOn r1 rfl rfl) (fun hb vs W hW => ?_) ?_; rotate_left; (focus (have hf := HF2.out W hW; clear hW; (try simp only [hb, cond_true, cond_false]); go_simp; exact loose_val)); simp only [Act.put, List.setIfInBounds_toArray, List.set_cons_zero, List.set_cons_succ, List.nil_append, List.cons_append, Nat.reduceAdd, Leaves.at])
    refine told_maybe (b := r1) (v := .bool r2) (fun _ => Bool.casesOn r1 rfl rfl) (fun hb vs W hW => ?_) ?_
    · try simp only [hb, cond_true, cond_false]
      go_simp
      exact loose_call (HL2.out W hW)
    simp only [Act.put, List.setIfInBounds_toArray, List.set_cons_zero, List.set_cons_succ, List.nil_append, List.cons_append, Nat.reduceAdd, Leaves.at]
    refine told_val (v := .bool (r1 && r2)) (fun _ => rfl) (fun vs W hW => ?_) ?_
    · cases r1 <;> cases r2 <;> (go_simp; exact loose_val)
    simp only [Act.put, List.setIfInBounds_toArray, List.set_cons_zero, List.set_cons_succ, List.nil_append, List.cons_append, Nat.reduceAdd, Leaves.at]
    generalize (r1 && r2) = s1 at *
    repeat (refine told_val (v := ?_) (fun _ => rfl) (fun vs W hW => ?_) ?_; rotate_left; (focus (have hf := HF2.out W hW; clear hW; go_simp; exact loose_val)); simp only [Act.put, List.setIfInBounds_toArray, List.set_cons_zero, List.set_cons_succ, List.nil_append, List.cons_append, Nat.reduceAdd, Leaves.at])
    cases s1 with
    | false =>
      repeat (first | (refine told_off (fun _ => rfl) ?_; simp only [Act.put, List.setIfInBounds_toArray, List.set_cons_zero, List.set_cons_succ, List.nil_append, List.cons_append, Nat.reduceAdd, Leaves.at]) | (refine told_val (v := ?_) (fun _ => rfl) (fun vs W hW => ?_) ?_; rotate_left; (focus (have hf := HF2.out W hW; clear hW; go_simp; exact loose_val)); simp only [Act.put, List.setIfInBounds_toArray, List.set_cons_zero, List.set_cons_succ, List.nil_append, List.cons_append, Nat.reduceAdd, Leaves.at]))
      refine told_nil ?_
      intro vs W3 hW3 hok hap
      clear hap
      dsimp only
      have HB4 := hid (HB3.out.trans (since_below hW3 HB3.out.size))
      clear hok hW3
      go_wp2_with fail
      go_ret
      exact ⟨by rw [HE.out]; rfl, HB4.out⟩
    | true =>
      repeat (refine told_val (v := ?_) (fun _ => rfl) (fun vs W hW => ?_) ?_; rotate_left; (focus (have hf := HF2.out W hW; clear hW; go_simp; exact loose_val)); simp only [Act.put, List.setIfInBounds_toArray, List.set_cons_zero, List.set_cons_succ, List.nil_append, List.cons_append, Nat.reduceAdd, Leaves.at])
      refine told_rel (LabR (max d1 d3) (joinL d1 l1 d3 l3)) LabR.stable (fun _ => rfl) (fun vs W hW hd => ?_) ?_
      · clear hd
        go_simp
        exact loose_callR (merge45_join W d1 d3 A1 A3 n1 c1 n3 c3 l1 l3 (H12.out.since_ hW) (H32.out.since_ hW) (by omega))
      simp only [Act.put, List.setIfInBounds_toArray, List.set_cons_zero, List.set_cons_succ, List.nil_append, List.cons_append, Nat.reduceAdd, Leaves.at]
      refine told_val' (v := .bool (leqB d5 l5 (max d1 d3) (joinL d1 l1 d3 l3))) (fun _ => rfl) (fun vs W hW hd => ?_) ?_
      · obtain ⟨P12, m12, k12, e12, hT12⟩ := hd ⟨12, .data⟩ (by simp) rfl _ rfl (fun h => by cases h)
        clear hd
        go_simp
        exact loose_call (leq41_b W _ _ A5 P12 n5 c5 m12 k12 l5 _ (H52.out.since_ hW) hT12 (by have := hT12.len; have := joinL_len d1 l1 d3 l3; have := HS1.out; have := HS3.out; omega))
      simp only [Act.put, List.setIfInBounds_toArray, List.set_cons_zero, List.set_cons_succ, List.nil_append, List.cons_append, Nat.reduceAdd, Leaves.at]
      repeat (refine told_val (v := ?_) (fun _ => rfl) (fun vs W hW => ?_) ?_; rotate_left; (focus (have hf := HF2.out W hW; clear hW; go_simp; exact loose_val)); simp only [Act.put, List.setIfInBounds_toArray, List.set_cons_zero, List.set_cons_succ, List.nil_append, List.cons_append, Nat.reduceAdd, Leaves.at])
      refine told_nil ?_
      intro vs W3 hW3 hok hap
      clear hap
      dsimp only
      have HB4 := hid (HB3.out.trans (since_below hW3 HB3.out.size))
      clear hok hW3
      go_wp2_with fail
      go_ret
      exact ⟨by rw [HE.out]; rfl, HB4.out⟩

end Go.Proofs.Ytndohmimcbmhdaa
