/- Of the flow's checks what the gates need. -/
import Derived.Test.YtndohmimcbmhdaaMz18
import Derived.Test.YtndohmimcbmhdaaMw1
import Derived.Test.YtndohmimcbmhdaaNa0
set_option linter.unusedVariables false
set_option linter.unusedSimpArgs false
namespace Go.Proofs.Ytndohmimcbmhdaa
open Go.RowKit Go.Sort

theorem Blk.cells4 {w : World} {g : Nat} {t : TypeId} {a b c d : Value} (h : Blk w g t #[a, b, c, d]) : w.cell? ⟨g, 0, none⟩ = some a ∧ w.cell? ⟨g, 1, none⟩ = some b ∧ w.cell? ⟨g, 2, none⟩ = some c ∧ w.cell? ⟨g, 3, none⟩ = some d := ⟨(Blk.cell h 0).trans rfl, (Blk.cell h 1).trans rfl, (Blk.cell h 2).trans rfl, (Blk.cell h 3).trans rfl⟩
def readsB (d : Int) (l : List (Int × Int)) (d' : Int) (l' : List (Int × Int)) : Bool := leqB d' l' (turnF 0 5 d d) (raiseL d l)
def writesB (d : Int) (l : List (Int × Int)) (d' : Int) (l' : List (Int × Int)) : Bool := readsB d l d' l' && leqB d l d' l'
def whoB (d : Int) (l : List (Int × Int)) (e : Int) (r : List (Int × Int)) : Bool := rightB d l && pureB e r
def makesB (d : Int) (l : List (Int × Int)) (e : Int) (r : List (Int × Int)) (d' : Int) (l' : List (Int × Int)) : Bool := pureB d' l' && (leqB d l d' l' && leqB d' l' e r)
def taintsB (d : Int) (l : List (Int × Int)) (e : Int) (r : List (Int × Int)) (d' : Int) (l' : List (Int × Int)) : Bool := rightB d' l' && (leqB d l d' l' && leqB d' l' e r)
def spawnsB (d : Int) (l : List (Int × Int)) (e : Int) (r : List (Int × Int)) (d' : Int) (l' : List (Int × Int)) (e' : Int) (r' : List (Int × Int)) : Bool := whoB d' l' e' r' && (leqB d l d' l' && (leqB d' l' e' r' && leqB e' r' e r))

set_option maxHeartbeats 4000000 in
set_option maxRecDepth 100000 in
theorem f115 (w : World) (d0 : Int) (A0 : Option Addr) (n0 c0 : Nat) (l0 : List (Int × Int)) (e0 : Int) (E0 : Option Addr) (m0 k0 : Nat) (r0 : List (Int × Int)) (t0 : CatsAt w w.heap.size A0 n0 c0 l0) (z0 : n0 ≤ 67108864) (u0 : CatsAt w w.heap.size E0 m0 k0 r0) (y0 : m0 ≤ 67108864) :
    Calls Try.prog 115 #[.agg #[.int .i64 d0, .slice A0 n0 c0, .int .i64 e0, .slice E0 m0 k0]] w fun e w' => e = .returned (.bool (whoB d0 l0 e0 r0)) ∧ Below w.heap.size w w' := by
  have mixed : Try.prog.follows .mixedOrders = true := by kernel_rfl
  have HB : Hid (Below w.heap.size w (w.alloc (.cells #[.int .i64 d0, .slice A0 n0 c0, .int .i64 e0, .slice E0 m0 k0] 43))) := (Below.refl _ w).alloc (Nat.le_refl _) _
  have HP0 : Hid (Blk (w.alloc (.cells #[.int .i64 d0, .slice A0 n0 c0, .int .i64 e0, .slice E0 m0 k0] 43)) w.heap.size 43 #[.int .i64 d0, .slice A0 n0 c0, .int .i64 e0, .slice E0 m0 k0]) := Blk.new w _ _
  have H0 := hid ((t0.below HB.out).more HB.out.size)
  have G0 := hid ((u0.below HB.out).more HB.out.size)
  have HE : Hid ((whoB d0 l0 e0 r0) = (rightB d0 l0 && pureB e0 r0)) := by show _ = _; rfl
  clear t0 u0
  go_enter Try.func115, Try.ntmps115
  go_wp2_with (refine wp_list_told 9 9 nil_ rfl (by decide) ?_)
  generalize w.alloc (.cells #[.int .i64 d0, .slice A0 n0 c0, .int .i64 e0, .slice E0 m0 k0] 43) = wa at *
  have HF : Hid (∀ W, But nil_ wa W → (W.cell? ⟨w.heap.size, 0, none⟩ = some (.int .i64 d0) ∧ W.cell? ⟨w.heap.size, 1, none⟩ = some (.slice A0 n0 c0) ∧ W.cell? ⟨w.heap.size, 2, none⟩ = some (.int .i64 e0) ∧ W.cell? ⟨w.heap.size, 3, none⟩ = some (.slice E0 m0 k0))) := fun W hW => (hW.blk HP0.out (fun h => h)).cells4
  try simp only [List.take_succ_cons, List.take_zero, List.drop_succ_cons, List.drop_zero]
  have HA := hid (fun W (hW : But nil_ wa W) => right51 W d0 A0 n0 c0 l0 (H0.out.since_ hW))
  have HL := hid (fun W (hW : But nil_ wa W) => pure113 W e0 E0 m0 k0 r0 (G0.out.since_ hW))
  generalize rightB d0 l0 = q at *
  generalize pureB e0 r0 = p at *
  repeat (refine told_val (v := ?_) (fun _ => rfl) (fun vs W hW => ?_) ?_; rotate_left; (focus (have hf := HF.out W hW; clear hW; go_simp; exact loose_val)); simp only [Act.put, List.setIfInBounds_toArray, List.set_cons_zero, List.set_cons_succ, List.nil_append, List.cons_append, Nat.reduceAdd, Leaves.at])
  refine told_val (v := .bool q) (fun _ => rfl) (fun vs W hW => ?_) ?_
  · go_simp
    exact loose_call (HA.out W hW)
  simp only [Act.put, List.setIfInBounds_toArray, List.set_cons_zero, List.set_cons_succ, List.nil_append, List.cons_append, Nat.reduceAdd, Leaves.at]
  repeat (refine told_val (v := ?_) (fun _ => rfl) (fun vs W hW => ?_) ?_; rotate_left; (focus (have hf := HF.out W hW; clear hW; go_simp; exact loose_val)); simp only [Act.put, List.setIfInBounds_toArray, List.set_cons_zero, List.set_cons_succ, List.nil_append, List.cons_append, Nat.reduceAdd, Leaves.at])
  repeat (refine told_maybe (b := q) (v := ?_) (fun _ => Bool.casesOn q rfl rfl) (fun hb vs W hW => ?_) ?_; rotate_left; (focus (have hf := HF.out W hW; clear hW; (try simp only [hb, cond_true, cond_false]); go_simp; exact loose_val)); simp only [Act.put, List.setIfInBounds_toArray, List.set_cons_zero, List.set_cons_succ, List.nil_append, List.cons_append, Nat.reduceAdd, Leaves.at])
  refine told_maybe (b := q) (v := .bool p) (fun _ => Bool.casesOn q rfl rfl) (fun hb vs W hW => ?_) ?_
  · try simp only [hb, cond_true, cond_false]
    go_simp
    exact loose_call (HL.out W hW)
  simp only [Act.put, List.setIfInBounds_toArray, List.set_cons_zero, List.set_cons_succ, List.nil_append, List.cons_append, Nat.reduceAdd, Leaves.at]
  refine told_val (v := .bool (q && p)) (fun _ => rfl) (fun vs W hW => ?_) ?_
  · cases q <;> cases p <;> (go_simp; exact loose_val)
  simp only [Act.put, List.setIfInBounds_toArray, List.set_cons_zero, List.set_cons_succ, List.nil_append, List.cons_append, Nat.reduceAdd, Leaves.at]
  repeat (refine told_val (v := ?_) (fun _ => rfl) (fun vs W hW => ?_) ?_; rotate_left; (focus (have hf := HF.out W hW; clear hW; go_simp; exact loose_val)); simp only [Act.put, List.setIfInBounds_toArray, List.set_cons_zero, List.set_cons_succ, List.nil_append, List.cons_append, Nat.reduceAdd, Leaves.at])
  refine told_nil ?_
  intro vs W hW hok hap
  clear hap
  dsimp only
  have HB2 := hid (HB.out.trans (since_below hW HB.out.size))
  clear hok hW
  go_wp2_with fail
  go_ret
  exact ⟨by rw [HE.out]; rfl, HB2.out⟩

set_option maxHeartbeats 4000000 in
set_option maxRecDepth 100000 in
theorem f62 (w : World) (d0 : Int) (A0 : Option Addr) (n0 c0 : Nat) (l0 : List (Int × Int)) (e0 : Int) (E0 : Option Addr) (m0 k0 : Nat) (r0 : List (Int × Int)) (d1 : Int) (A1 : Option Addr) (n1 c1 : Nat) (l1 : List (Int × Int)) (t0 : CatsAt w w.heap.size A0 n0 c0 l0) (z0 : n0 ≤ 67108864) (u0 : CatsAt w w.heap.size E0 m0 k0 r0) (y0 : m0 ≤ 67108864) (t1 : CatsAt w w.heap.size A1 n1 c1 l1) (z1 : n1 ≤ 67108864) :
    Calls Try.prog 62 #[.agg #[.int .i64 d0, .slice A0 n0 c0, .int .i64 e0, .slice E0 m0 k0], .agg #[.int .i64 d1, .slice A1 n1 c1]] w fun e w' => e = .returned (.bool (taintsB d0 l0 e0 r0 d1 l1)) ∧ Below w.heap.size w w' := by
  have mixed : Try.prog.follows .mixedOrders = true := by kernel_rfl
  obtain ⟨q0, q1, q2⟩ := two_blk w #[.int .i64 d0, .slice A0 n0 c0, .int .i64 e0, .slice E0 m0 k0] #[.int .i64 d1, .slice A1 n1 c1] 43 26
  have HB := hid q0
  have HP0 := hid q1
  have HP1 := hid q2
  have H0 := hid ((t0.below q0).more q0.size)
  have G0 := hid ((u0.below q0).more q0.size)
  have H1 := hid ((t1.below q0).more q0.size)
  have HE : Hid ((taintsB d0 l0 e0 r0 d1 l1) = (rightB d1 l1 && risesP [(d0, l0), (d1, l1), (e0, r0)])) := by show _ = _; unfold taintsB; simp [risesP]
  clear t0 u0 t1 q0 q1 q2
  go_enter Try.func62, Try.ntmps62
  go_wp2_with (refine wp_list_told 12 12 nil_ rfl (by decide) ?_)
  generalize (w.alloc (.cells #[.int .i64 d0, .slice A0 n0 c0, .int .i64 e0, .slice E0 m0 k0] 43)).alloc (.cells #[.int .i64 d1, .slice A1 n1 c1] 26) = wa at *
  have HF : Hid (∀ W, But nil_ wa W → (W.cell? ⟨w.heap.size, 0, none⟩ = some (.int .i64 d0) ∧ W.cell? ⟨w.heap.size, 1, none⟩ = some (.slice A0 n0 c0) ∧ W.cell? ⟨w.heap.size, 2, none⟩ = some (.int .i64 e0) ∧ W.cell? ⟨w.heap.size, 3, none⟩ = some (.slice E0 m0 k0)) ∧ (W.cell? ⟨w.heap.size + 1, 0, none⟩ = some (.int .i64 d1) ∧ W.cell? ⟨w.heap.size + 1, 1, none⟩ = some (.slice A1 n1 c1))) := fun W hW => ⟨(hW.blk HP0.out (fun h => h)).cells4, (hW.blk HP1.out (fun h => h)).cells2⟩
  try simp only [List.take_succ_cons, List.take_zero, List.drop_succ_cons, List.drop_zero]
  have HPU := hid (fun W (hW : But nil_ wa W) => right51 W d1 A1 n1 c1 l1 (H1.out.since_ hW))
  generalize rightB d1 l1 = q at *
  repeat (refine told_val (v := ?_) (fun _ => rfl) (fun vs W hW => ?_) ?_; rotate_left; (focus (have hf := HF.out W hW; clear hW; go_simp; exact loose_val)); simp only [Act.put, List.setIfInBounds_toArray, List.set_cons_zero, List.set_cons_succ, List.nil_append, List.cons_append, Nat.reduceAdd, Leaves.at])
  refine told_val (v := .bool q) (fun _ => rfl) (fun vs W hW => ?_) ?_
  · go_simp
    exact loose_call (HPU.out W hW)
  simp only [Act.put, List.setIfInBounds_toArray, List.set_cons_zero, List.set_cons_succ, List.nil_append, List.cons_append, Nat.reduceAdd, Leaves.at]
  repeat (refine told_val (v := ?_) (fun _ => rfl) (fun vs W hW => ?_) ?_; rotate_left; (focus (have hf := HF.out W hW; clear hW; go_simp; exact loose_val)); simp only [Act.put, List.setIfInBounds_toArray, List.set_cons_zero, List.set_cons_succ, List.nil_append, List.cons_append, Nat.reduceAdd, Leaves.at])
  cases q with
  | false =>
    repeat (first | (refine told_off (fun _ => rfl) ?_; simp only [Act.put, List.setIfInBounds_toArray, List.set_cons_zero, List.set_cons_succ, List.nil_append, List.cons_append, Nat.reduceAdd, Leaves.at]) | (refine told_val (v := ?_) (fun _ => rfl) (fun vs W hW => ?_) ?_; rotate_left; (focus (have hf := HF.out W hW; clear hW; go_simp; exact loose_val)); simp only [Act.put, List.setIfInBounds_toArray, List.set_cons_zero, List.set_cons_succ, List.nil_append, List.cons_append, Nat.reduceAdd, Leaves.at]))
    refine told_nil ?_
    intro vs W hW hok hap
    clear hap
    dsimp only
    have HB2 := hid (HB.out.trans (since_below hW HB.out.size))
    clear hok hW
    go_wp2_with fail
    go_ret
    exact ⟨by rw [HE.out]; rfl, HB2.out⟩
  | true =>
    repeat (refine told_val (v := ?_) (fun _ => rfl) (fun vs W hW => ?_) ?_; rotate_left; (focus (have hf := HF.out W hW; clear hW; go_simp; exact loose_val)); simp only [Act.put, List.setIfInBounds_toArray, List.set_cons_zero, List.set_cons_succ, List.nil_append, List.cons_append, Nat.reduceAdd, Leaves.at])
    refine told_rel (LabsR [(d0, l0), (d1, l1), (e0, r0)]) LabsR.stable (fun _ => rfl) (fun vs W hW hd => ?_) ?_
    · clear hd
      have hf := HF.out W hW
      have hmem := hid (List.forall_mem_cons.2 ⟨H0.out.since_ hW, List.forall_mem_cons.2 ⟨H1.out.since_ hW, List.forall_mem_cons.2 ⟨G0.out.since_ hW, fun _ h => nomatch h⟩⟩⟩ : ∀ l ∈ [(⟨d0, A0, n0, c0, l0⟩ : LabV), (⟨d1, A1, n1, c1, l1⟩ : LabV), (⟨e0, E0, m0, k0, r0⟩ : LabV)], l.at_ W)
      clear hW
      go_simp
      exact loose_labs _ hmem.out
    simp only [Act.put, List.setIfInBounds_toArray, List.set_cons_zero, List.set_cons_succ, List.nil_append, List.cons_append, Nat.reduceAdd, Leaves.at]
    refine told_val' (v := .bool (risesP [(d0, l0), (d1, l1), (e0, r0)])) (fun _ => rfl) (fun vs W hW hd => ?_) ?_
    · have hl := hd ⟨8, .data⟩ (by simp) rfl _ rfl (fun h => by cases h)
      have hr := hid (rises_R hl (by simp) (by simp))
      clear hd hl
      go_simp
      exact loose_call hr.out
    simp only [Act.put, List.setIfInBounds_toArray, List.set_cons_zero, List.set_cons_succ, List.nil_append, List.cons_append, Nat.reduceAdd, Leaves.at]
    repeat (refine told_val (v := ?_) (fun _ => rfl) (fun vs W hW => ?_) ?_; rotate_left; (focus (have hf := HF.out W hW; clear hW; go_simp; exact loose_val)); simp only [Act.put, List.setIfInBounds_toArray, List.set_cons_zero, List.set_cons_succ, List.nil_append, List.cons_append, Nat.reduceAdd, Leaves.at])
    refine told_nil ?_
    intro vs W hW hok hap
    clear hap
    dsimp only
    have HB2 := hid (HB.out.trans (since_below hW HB.out.size))
    clear hok hW
    go_wp2_with fail
    go_ret
    exact ⟨by rw [HE.out]; rfl, HB2.out⟩

def clearsB (d : Int) (l : List (Int × Int)) (e : Int) (r : List (Int × Int)) (d' : Int) (l' : List (Int × Int)) : Bool := pureB d' l' && (leqB d l d' l' && leqB d' l' (max e (turnF 0 5 d d)) (joinL e r (turnF 0 5 d d) (raiseL d l)))

theorem six_blk (w : World) (a b c d e f : Array Value) (ta tb tc td te tf : TypeId) :
    Below w.heap.size w ((((((w.alloc (.cells a ta)).alloc (.cells b tb)).alloc (.cells c tc)).alloc (.cells d td)).alloc (.cells e te)).alloc (.cells f tf)) ∧
    Blk ((((((w.alloc (.cells a ta)).alloc (.cells b tb)).alloc (.cells c tc)).alloc (.cells d td)).alloc (.cells e te)).alloc (.cells f tf)) w.heap.size ta a ∧
    Blk ((((((w.alloc (.cells a ta)).alloc (.cells b tb)).alloc (.cells c tc)).alloc (.cells d td)).alloc (.cells e te)).alloc (.cells f tf)) (w.heap.size + 1) tb b ∧
    Blk ((((((w.alloc (.cells a ta)).alloc (.cells b tb)).alloc (.cells c tc)).alloc (.cells d td)).alloc (.cells e te)).alloc (.cells f tf)) (w.heap.size + 1 + 1) tc c ∧
    Blk ((((((w.alloc (.cells a ta)).alloc (.cells b tb)).alloc (.cells c tc)).alloc (.cells d td)).alloc (.cells e te)).alloc (.cells f tf)) (w.heap.size + 1 + 1 + 1) td d ∧
    Blk ((((((w.alloc (.cells a ta)).alloc (.cells b tb)).alloc (.cells c tc)).alloc (.cells d td)).alloc (.cells e te)).alloc (.cells f tf)) (w.heap.size + 1 + 1 + 1 + 1) te e ∧
    Blk ((((((w.alloc (.cells a ta)).alloc (.cells b tb)).alloc (.cells c tc)).alloc (.cells d td)).alloc (.cells e te)).alloc (.cells f tf)) (w.heap.size + 1 + 1 + 1 + 1 + 1) tf f := by
  obtain ⟨b4, k1, k2, k3, k4, hs⟩ := four_blk w a b c d ta tb tc td
  obtain ⟨b2, k5, k6⟩ := two_blk ((((w.alloc (.cells a ta)).alloc (.cells b tb)).alloc (.cells c tc)).alloc (.cells d td)) e f te tf
  rw [hs] at k5 k6
  exact ⟨b4.trans (b2.mono b4.size), (k1.alloc _).alloc _, (k2.alloc _).alloc _, (k3.alloc _).alloc _, (k4.alloc _).alloc _, k5, k6⟩
def leastD (d d' : Int) : Int := turnF 5 0 (max (turnF 0 5 d d) (turnF 0 5 d' d')) (max (turnF 0 5 d d) (turnF 0 5 d' d'))
def leastL (d : Int) (l : List (Int × Int)) (d' : Int) (l' : List (Int × Int)) : List (Int × Int) := lowerL (max (turnF 0 5 d d) (turnF 0 5 d' d')) (joinL (turnF 0 5 d d) (raiseL d l) (turnF 0 5 d' d') (raiseL d' l'))
theorem leastL_len (d : Int) (l : List (Int × Int)) (d' : Int) (l' : List (Int × Int)) : (leastL d l d' l').length ≤ 4 * (l.length + l'.length) := by
  have h1 := raiseL_len d l
  have h2 := raiseL_len d' l'
  have h3 := joinL_len (turnF 0 5 d d) (raiseL d l) (turnF 0 5 d' d') (raiseL d' l')
  have h4 := lowerL_len (max (turnF 0 5 d d) (turnF 0 5 d' d')) (joinL (turnF 0 5 d d) (raiseL d l) (turnF 0 5 d' d') (raiseL d' l'))
  unfold leastL
  omega
def entersB (d0 : Int) (l0 : List (Int × Int)) (e0 : Int) (r0 : List (Int × Int)) (d1 : Int) (l1 : List (Int × Int)) (e1 : Int) (r1 : List (Int × Int)) (d2 : Int) (l2 : List (Int × Int)) (e2 : Int) (r2 : List (Int × Int)) : Bool :=
  (whoB d2 l2 e2 r2 && leqB d0 l0 e1 r1) && (leqB (leastD d0 d1) (leastL d0 l0 d1 l1) d2 l2 && (leqB d2 l2 e2 r2 && leqB e2 r2 (max e0 e1) (joinL e0 r0 e1 r1)))

set_option maxHeartbeats 4000000 in
set_option maxRecDepth 100000 in
theorem f66 (w : World) (d0 : Int) (A0 : Option Addr) (n0 c0 : Nat) (l0 : List (Int × Int)) (e0 : Int) (E0 : Option Addr) (m0 k0 : Nat) (r0 : List (Int × Int)) (d1 : Int) (A1 : Option Addr) (n1 c1 : Nat) (l1 : List (Int × Int)) (e1 : Int) (E1 : Option Addr) (m1 k1 : Nat) (r1 : List (Int × Int)) (d2 : Int) (A2 : Option Addr) (n2 c2 : Nat) (l2 : List (Int × Int)) (e2 : Int) (E2 : Option Addr) (m2 k2 : Nat) (r2 : List (Int × Int)) (t0 : CatsAt w w.heap.size A0 n0 c0 l0) (z0 : n0 ≤ 67108864) (u0 : CatsAt w w.heap.size E0 m0 k0 r0) (y0 : m0 ≤ 67108864) (t1 : CatsAt w w.heap.size A1 n1 c1 l1) (z1 : n1 ≤ 67108864) (u1 : CatsAt w w.heap.size E1 m1 k1 r1) (y1 : m1 ≤ 67108864) (t2 : CatsAt w w.heap.size A2 n2 c2 l2) (z2 : n2 ≤ 67108864) (u2 : CatsAt w w.heap.size E2 m2 k2 r2) (y2 : m2 ≤ 67108864) :
    Calls Try.prog 66 #[.agg #[.int .i64 d0, .slice A0 n0 c0, .int .i64 e0, .slice E0 m0 k0], .agg #[.int .i64 d1, .slice A1 n1 c1, .int .i64 e1, .slice E1 m1 k1], .agg #[.int .i64 d2, .slice A2 n2 c2, .int .i64 e2, .slice E2 m2 k2]] w fun e w' => e = .returned (.bool (entersB d0 l0 e0 r0 d1 l1 e1 r1 d2 l2 e2 r2)) ∧ Below w.heap.size w w' := by
  have mixed : Try.prog.follows .mixedOrders = true := by kernel_rfl
  obtain ⟨q0, q1, q2, q3⟩ := three_blk w #[.int .i64 d0, .slice A0 n0 c0, .int .i64 e0, .slice E0 m0 k0] #[.int .i64 d1, .slice A1 n1 c1, .int .i64 e1, .slice E1 m1 k1] #[.int .i64 d2, .slice A2 n2 c2, .int .i64 e2, .slice E2 m2 k2] 43 43 43
  have HB := hid q0
  have HP0 := hid q1
  have HP1 := hid q2
  have HP2 := hid q3
  have H0 := hid ((t0.below q0).more q0.size)
  have G0 := hid ((u0.below q0).more q0.size)
  have H1 := hid ((t1.below q0).more q0.size)
  have G1 := hid ((u1.below q0).more q0.size)
  have H2 := hid ((t2.below q0).more q0.size)
  have G2 := hid ((u2.below q0).more q0.size)
  have HE : Hid ((entersB d0 l0 e0 r0 d1 l1 e1 r1 d2 l2 e2 r2) = ((whoB d2 l2 e2 r2 && risesP [(d0, l0), (e1, r1)]) && risesP [(leastD d0 d1, leastL d0 l0 d1 l1), (d2, l2), (e2, r2), (max e0 e1, joinL e0 r0 e1 r1)])) := by show _ = _; unfold entersB; simp [risesP]
  clear t0 u0 t1 u1 t2 u2 q0 q1 q2 q3
  go_enter Try.func66, Try.ntmps66
  go_wp2_with fail
  generalize ((w.alloc (.cells #[.int .i64 d0, .slice A0 n0 c0, .int .i64 e0, .slice E0 m0 k0] 43)).alloc (.cells #[.int .i64 d1, .slice A1 n1 c1, .int .i64 e1, .slice E1 m1 k1] 43)).alloc (.cells #[.int .i64 d2, .slice A2 n2 c2, .int .i64 e2, .slice E2 m2 k2] 43) = wa at *
  have HF : Hid (∀ W, But nil_ wa W → (W.cell? ⟨w.heap.size, 0, none⟩ = some (.int .i64 d0) ∧ W.cell? ⟨w.heap.size, 1, none⟩ = some (.slice A0 n0 c0) ∧ W.cell? ⟨w.heap.size, 2, none⟩ = some (.int .i64 e0) ∧ W.cell? ⟨w.heap.size, 3, none⟩ = some (.slice E0 m0 k0)) ∧ (W.cell? ⟨w.heap.size + 1, 0, none⟩ = some (.int .i64 d1) ∧ W.cell? ⟨w.heap.size + 1, 1, none⟩ = some (.slice A1 n1 c1) ∧ W.cell? ⟨w.heap.size + 1, 2, none⟩ = some (.int .i64 e1) ∧ W.cell? ⟨w.heap.size + 1, 3, none⟩ = some (.slice E1 m1 k1)) ∧ (W.cell? ⟨w.heap.size + 1 + 1, 0, none⟩ = some (.int .i64 d2) ∧ W.cell? ⟨w.heap.size + 1 + 1, 1, none⟩ = some (.slice A2 n2 c2) ∧ W.cell? ⟨w.heap.size + 1 + 1, 2, none⟩ = some (.int .i64 e2) ∧ W.cell? ⟨w.heap.size + 1 + 1, 3, none⟩ = some (.slice E2 m2 k2))) := fun W hW => ⟨(hW.blk HP0.out (fun h => h)).cells4, (hW.blk HP1.out (fun h => h)).cells4, (hW.blk HP2.out (fun h => h)).cells4⟩
  refine wp_region_told 9 nil_ mixed (by kernel_rfl) ?_
  simp only [List.take_succ_cons, List.take_zero, List.drop_succ_cons, List.drop_zero]
  have HS0 := hid H0.out.len
  have HS1 := hid H1.out.len
  repeat (refine told_val (v := ?_) (fun _ => rfl) (fun vs W hW => ?_) ?_; rotate_left; (focus (have hf := HF.out W hW; clear hW; go_simp; exact loose_val)); simp only [Act.put, List.setIfInBounds_toArray, List.set_cons_zero, List.set_cons_succ, List.nil_append, List.cons_append, Nat.reduceAdd, Leaves.at])
  refine told_rel (LabR (turnF 0 5 d0 d0) (raiseL d0 l0)) LabR.stable (fun _ => rfl) (fun vs W hW hd => ?_) ?_
  · clear hd
    go_simp
    exact loose_callR (raise46_l W d0 A0 n0 c0 l0 (H0.out.since_ hW) (by omega))
  simp only [Act.put, List.setIfInBounds_toArray, List.set_cons_zero, List.set_cons_succ, List.nil_append, List.cons_append, Nat.reduceAdd, Leaves.at]
  repeat (refine told_val (v := ?_) (fun _ => rfl) (fun vs W hW => ?_) ?_; rotate_left; (focus (have hf := HF.out W hW; clear hW; go_simp; exact loose_val)); simp only [Act.put, List.setIfInBounds_toArray, List.set_cons_zero, List.set_cons_succ, List.nil_append, List.cons_append, Nat.reduceAdd, Leaves.at])
  refine told_rel (LabR (turnF 0 5 d1 d1) (raiseL d1 l1)) LabR.stable (fun _ => rfl) (fun vs W hW hd => ?_) ?_
  · clear hd
    go_simp
    exact loose_callR (raise46_l W d1 A1 n1 c1 l1 (H1.out.since_ hW) (by omega))
  simp only [Act.put, List.setIfInBounds_toArray, List.set_cons_zero, List.set_cons_succ, List.nil_append, List.cons_append, Nat.reduceAdd, Leaves.at]
  refine told_rel (LabR (max (turnF 0 5 d0 d0) (turnF 0 5 d1 d1)) (joinL (turnF 0 5 d0 d0) (raiseL d0 l0) (turnF 0 5 d1 d1) (raiseL d1 l1))) LabR.stable (fun _ => rfl) (fun vs W hW hd => ?_) ?_
  · obtain ⟨P2, m2, k2, e2, hT2⟩ := hd ⟨2, .data⟩ (by simp) rfl _ rfl (fun h => by cases h)
    obtain ⟨P5, m5, k5, e5, hT5⟩ := hd ⟨5, .data⟩ (by simp) rfl _ rfl (fun h => by cases h)
    clear hd
    go_simp
    exact loose_callR (join43_l W _ _ P2 P5 m2 k2 m5 k5 _ _ hT2 hT5 (by have := hT2.len; have := hT5.len; have := raiseL_len d0 l0; have := raiseL_len d1 l1; have := HS0.out; have := HS1.out; omega))
  simp only [Act.put, List.setIfInBounds_toArray, List.set_cons_zero, List.set_cons_succ, List.nil_append, List.cons_append, Nat.reduceAdd, Leaves.at]
  refine told_rel (LabR (leastD d0 d1) (leastL d0 l0 d1 l1)) LabR.stable (fun _ => rfl) (fun vs W hW hd => ?_) ?_
  · obtain ⟨P6, m6, k6, e6, hT6⟩ := hd ⟨6, .data⟩ (by simp) rfl _ rfl (fun h => by cases h)
    clear hd
    go_simp
    exact loose_callR (lower48_l W _ P6 m6 k6 _ hT6 (by have := hT6.len; have := joinL_len (turnF 0 5 d0 d0) (raiseL d0 l0) (turnF 0 5 d1 d1) (raiseL d1 l1); have := raiseL_len d0 l0; have := raiseL_len d1 l1; have := HS0.out; have := HS1.out; omega))
  simp only [Act.put, List.setIfInBounds_toArray, List.set_cons_zero, List.set_cons_succ, List.nil_append, List.cons_append, Nat.reduceAdd, Leaves.at]
  refine told_fresh (NewPtr wa.heap.size 26 #[.int .i64 0, .slice none 0 0]) (NewPtr.fresh (fun _ hk => by first | exact hk.elim | (have := hk; omega))) (fun _ => rfl) (fun vs W hW hd => ?_) ?_
  · go_simp
    exact loose_freshPtr hW.size
  simp only [Act.put, List.setIfInBounds_toArray, List.set_cons_zero, List.set_cons_succ, List.nil_append, List.cons_append, Nat.reduceAdd, Leaves.at]
  refine told_nil ?_
  intro vs W hW hok hap
  dsimp only
  obtain ⟨X, nx, cx, e7, hX⟩ := hok 7 _ rfl rfl
  obtain ⟨⟨p, e8, hp, kp⟩, -⟩ := hok 8 _ rfl rfl
  rw [e7, e8]
  have HW := hid hW
  have HX := hid hX
  have KP := hid kp
  obtain ⟨⟨z10, z11⟩, z12, z13⟩ := label_zero kp
  clear hok hap hW hX kp e7 e8
  have HLL := hid (leastL_len d0 l0 d1 l1)
  generalize leastD d0 d1 = dl at *
  generalize leastL d0 l0 d1 l1 = ll at *
  go_wp2_with fail
  obtain ⟨Wp, hwp, K1, BW⟩ := put1 KP.out (.int .i64 dl) (.slice X nx cx)
  rw [hwp]
  have hs := HW.out.size
  have hs2 := BW.size
  have HX2 := hid ((HX.out.keep (Nat.le_refl _) BW fun g hg => by subst hg; exact bare26 KP.out).more hs2)
  have HBp : Hid (Below wa.heap.size wa Wp) := BW.done (since_below HW.out (Nat.le_refl _)) (fun k hk => by subst hk; omega) hs
  have H02 := hid ((H0.out.below HBp.out).more HBp.out.size)
  have G02 := hid ((G0.out.below HBp.out).more HBp.out.size)
  have G12 := hid ((G1.out.below HBp.out).more HBp.out.size)
  have H22 := hid ((H2.out.below HBp.out).more HBp.out.size)
  have G22 := hid ((G2.out.below HBp.out).more HBp.out.size)
  have HQ0 := hid (HP0.out.below HBp.out HP0.out.lt)
  have HQ1 := hid (HP1.out.below HBp.out HP1.out.lt)
  have HQ2 := hid (HP2.out.below HBp.out HP2.out.lt)
  have HB1 := hid (HB.out.trans (HBp.out.mono HB.out.size))
  have K1 := hid K1
  clear hwp BW hs hs2 z10 z11 z12 z13
  have HF2 : Hid (∀ W, But nil_ Wp W → ((W.cell? ⟨w.heap.size, 0, none⟩ = some (.int .i64 d0) ∧ W.cell? ⟨w.heap.size, 1, none⟩ = some (.slice A0 n0 c0) ∧ W.cell? ⟨w.heap.size, 2, none⟩ = some (.int .i64 e0) ∧ W.cell? ⟨w.heap.size, 3, none⟩ = some (.slice E0 m0 k0)) ∧ (W.cell? ⟨w.heap.size + 1, 0, none⟩ = some (.int .i64 d1) ∧ W.cell? ⟨w.heap.size + 1, 1, none⟩ = some (.slice A1 n1 c1) ∧ W.cell? ⟨w.heap.size + 1, 2, none⟩ = some (.int .i64 e1) ∧ W.cell? ⟨w.heap.size + 1, 3, none⟩ = some (.slice E1 m1 k1))) ∧ ((W.cell? ⟨w.heap.size + 1 + 1, 0, none⟩ = some (.int .i64 d2) ∧ W.cell? ⟨w.heap.size + 1 + 1, 1, none⟩ = some (.slice A2 n2 c2) ∧ W.cell? ⟨w.heap.size + 1 + 1, 2, none⟩ = some (.int .i64 e2) ∧ W.cell? ⟨w.heap.size + 1 + 1, 3, none⟩ = some (.slice E2 m2 k2)) ∧ (W.cell? ⟨p, 0, none⟩ = some (.int .i64 dl) ∧ W.cell? ⟨p, 1, none⟩ = some (.slice X nx cx)))) :=
    fun W hW => ⟨⟨(hW.blk HQ0.out (fun h => h)).cells4, (hW.blk HQ1.out (fun h => h)).cells4⟩, (hW.blk HQ2.out (fun h => h)).cells4, (hW.blk K1.out (fun h => h)).cells2⟩
  have HPU := hid (fun W (hW : But nil_ Wp W) => f115 W d2 A2 n2 c2 l2 e2 E2 m2 k2 r2 (H22.out.since_ hW) z2 (G22.out.since_ hW) y2)
  generalize whoB d2 l2 e2 r2 = q at *
  obtain ⟨pp, hpp⟩ : ∃ pp, risesP [(d0, l0), (e1, r1)] = pp := ⟨_, rfl⟩
  rw [hpp] at HE
  have HPP := hid hpp
  clear hpp
  refine wp_region_told 25 nil_ mixed (by kernel_rfl) ?_
  simp only [List.take_succ_cons, List.take_zero, List.drop_succ_cons, List.drop_zero]
  repeat (refine told_val (v := ?_) (fun _ => rfl) (fun vs W hW => ?_) ?_; rotate_left; (focus (have hf := HF2.out W hW; clear hW; go_simp; exact loose_val)); simp only [Act.put, List.setIfInBounds_toArray, List.set_cons_zero, List.set_cons_succ, List.nil_append, List.cons_append, Nat.reduceAdd, Leaves.at])
  refine told_val (v := .bool q) (fun _ => rfl) (fun vs W hW => ?_) ?_
  · go_simp
    exact loose_call (HPU.out W hW)
  simp only [Act.put, List.setIfInBounds_toArray, List.set_cons_zero, List.set_cons_succ, List.nil_append, List.cons_append, Nat.reduceAdd, Leaves.at]
  repeat (refine told_val (v := ?_) (fun _ => rfl) (fun vs W hW => ?_) ?_; rotate_left; (focus (have hf := HF2.out W hW; clear hW; go_simp; exact loose_val)); simp only [Act.put, List.setIfInBounds_toArray, List.set_cons_zero, List.set_cons_succ, List.nil_append, List.cons_append, Nat.reduceAdd, Leaves.at])
  cases q with
  | false =>
    repeat (first | (refine told_off (fun _ => rfl) ?_; simp only [Act.put, List.setIfInBounds_toArray, List.set_cons_zero, List.set_cons_succ, List.nil_append, List.cons_append, Nat.reduceAdd, Leaves.at]) | (refine told_val (v := ?_) (fun _ => rfl) (fun vs W hW => ?_) ?_; rotate_left; (focus (have hf := HF2.out W hW; clear hW; go_simp; exact loose_val)); simp only [Act.put, List.setIfInBounds_toArray, List.set_cons_zero, List.set_cons_succ, List.nil_append, List.cons_append, Nat.reduceAdd, Leaves.at]))
    refine told_nil ?_
    intro vs W2 hW2 hok hap
    clear hap
    dsimp only
    have HB2 := hid (HB1.out.trans (since_below hW2 HB1.out.size))
    clear hok hW2
    go_wp2_with fail
    go_ret
    exact ⟨by rw [HE.out]; rfl, HB2.out⟩
  | true =>
    repeat (refine told_val (v := ?_) (fun _ => rfl) (fun vs W hW => ?_) ?_; rotate_left; (focus (have hf := HF2.out W hW; clear hW; go_simp; exact loose_val)); simp only [Act.put, List.setIfInBounds_toArray, List.set_cons_zero, List.set_cons_succ, List.nil_append, List.cons_append, Nat.reduceAdd, Leaves.at])
    refine told_rel (LabsR [(d0, l0), (e1, r1)]) LabsR.stable (fun _ => rfl) (fun vs W hW hd => ?_) ?_
    · clear hd
      have hf := HF2.out W hW
      have hmem := hid (List.forall_mem_cons.2 ⟨H02.out.since_ hW, List.forall_mem_cons.2 ⟨G12.out.since_ hW, fun _ h => nomatch h⟩⟩ : ∀ l ∈ [(⟨d0, A0, n0, c0, l0⟩ : LabV), (⟨e1, E1, m1, k1, r1⟩ : LabV)], l.at_ W)
      clear hW
      go_simp
      exact loose_labs _ hmem.out
    simp only [Act.put, List.setIfInBounds_toArray, List.set_cons_zero, List.set_cons_succ, List.nil_append, List.cons_append, Nat.reduceAdd, Leaves.at]
    refine told_val' (v := .bool pp) (fun _ => rfl) (fun vs W hW hd => ?_) ?_
    · have hl := hd ⟨7, .data⟩ (by simp) rfl _ rfl (fun h => by cases h)
      have hr := rises_R hl (by simp) (by simp)
      rw [HPP.out] at hr
      have hr := hid hr
      clear hd hl
      go_simp
      exact loose_call hr.out
    simp only [Act.put, List.setIfInBounds_toArray, List.set_cons_zero, List.set_cons_succ, List.nil_append, List.cons_append, Nat.reduceAdd, Leaves.at]
    repeat (refine told_val (v := ?_) (fun _ => rfl) (fun vs W hW => ?_) ?_; rotate_left; (focus (have hf := HF2.out W hW; clear hW; go_simp; exact loose_val)); simp only [Act.put, List.setIfInBounds_toArray, List.set_cons_zero, List.set_cons_succ, List.nil_append, List.cons_append, Nat.reduceAdd, Leaves.at])
    cases pp with
    | false =>
      repeat (first | (refine told_off (fun _ => rfl) ?_; simp only [Act.put, List.setIfInBounds_toArray, List.set_cons_zero, List.set_cons_succ, List.nil_append, List.cons_append, Nat.reduceAdd, Leaves.at]) | (refine told_val (v := ?_) (fun _ => rfl) (fun vs W hW => ?_) ?_; rotate_left; (focus (have hf := HF2.out W hW; clear hW; go_simp; exact loose_val)); simp only [Act.put, List.setIfInBounds_toArray, List.set_cons_zero, List.set_cons_succ, List.nil_append, List.cons_append, Nat.reduceAdd, Leaves.at]))
      refine told_nil ?_
      intro vs W2 hW2 hok hap
      clear hap
      dsimp only
      have HB2 := hid (HB1.out.trans (since_below hW2 HB1.out.size))
      clear hok hW2
      go_wp2_with fail
      go_ret
      exact ⟨by rw [HE.out]; rfl, HB2.out⟩
    | true =>
      repeat (refine told_val (v := ?_) (fun _ => rfl) (fun vs W hW => ?_) ?_; rotate_left; (focus (have hf := HF2.out W hW; clear hW; go_simp; exact loose_val)); simp only [Act.put, List.setIfInBounds_toArray, List.set_cons_zero, List.set_cons_succ, List.nil_append, List.cons_append, Nat.reduceAdd, Leaves.at])
      refine told_rel (LabR (max e0 e1) (joinL e0 r0 e1 r1)) LabR.stable (fun _ => rfl) (fun vs W hW hd => ?_) ?_
      · clear hd
        go_simp
        exact loose_callR (join43_l W e0 e1 E0 E1 m0 k0 m1 k1 r0 r1 (G02.out.since_ hW) (G12.out.since_ hW) (by omega))
      simp only [Act.put, List.setIfInBounds_toArray, List.set_cons_zero, List.set_cons_succ, List.nil_append, List.cons_append, Nat.reduceAdd, Leaves.at]
      refine told_rel (LabsR [(dl, ll), (d2, l2), (e2, r2), (max e0 e1, joinL e0 r0 e1 r1)]) LabsR.stable (fun _ => rfl) (fun vs W hW hd => ?_) ?_
      · obtain ⟨P20, m20', k20', e20', hT20⟩ := hd ⟨20, .data⟩ (by simp) rfl _ rfl (fun h => by cases h)
        clear hd
        have hf := HF2.out W hW
        have hmem := hid (List.forall_mem_cons.2 ⟨HX2.out.since_ hW, List.forall_mem_cons.2 ⟨H22.out.since_ hW, List.forall_mem_cons.2 ⟨G22.out.since_ hW, List.forall_mem_cons.2 ⟨hT20, fun _ h => nomatch h⟩⟩⟩⟩ : ∀ l ∈ [(⟨dl, X, nx, cx, ll⟩ : LabV), (⟨d2, A2, n2, c2, l2⟩ : LabV), (⟨e2, E2, m2, k2, r2⟩ : LabV), (⟨max e0 e1, P20, m20', k20', joinL e0 r0 e1 r1⟩ : LabV)], l.at_ W)
        clear hW
        go_simp
        exact loose_labs _ hmem.out
      simp only [Act.put, List.setIfInBounds_toArray, List.set_cons_zero, List.set_cons_succ, List.nil_append, List.cons_append, Nat.reduceAdd, Leaves.at]
      refine told_val' (v := .bool (risesP [(dl, ll), (d2, l2), (e2, r2), (max e0 e1, joinL e0 r0 e1 r1)])) (fun _ => rfl) (fun vs W hW hd => ?_) ?_
      · have hl := hd ⟨21, .data⟩ (by simp) rfl _ rfl (fun h => by cases h)
        have hr := hid (rises_R hl (by simp) (by simp))
        clear hd hl
        go_simp
        exact loose_call hr.out
      simp only [Act.put, List.setIfInBounds_toArray, List.set_cons_zero, List.set_cons_succ, List.nil_append, List.cons_append, Nat.reduceAdd, Leaves.at]
      repeat (refine told_val (v := ?_) (fun _ => rfl) (fun vs W hW => ?_) ?_; rotate_left; (focus (have hf := HF2.out W hW; clear hW; go_simp; exact loose_val)); simp only [Act.put, List.setIfInBounds_toArray, List.set_cons_zero, List.set_cons_succ, List.nil_append, List.cons_append, Nat.reduceAdd, Leaves.at])
      refine told_nil ?_
      intro vs W2 hW2 hok hap
      clear hap
      dsimp only
      have HB2 := hid (HB1.out.trans (since_below hW2 HB1.out.size))
      clear hok hW2
      go_wp2_with fail
      go_ret
      exact ⟨by rw [HE.out]; rfl, HB2.out⟩

set_option maxHeartbeats 4000000 in
set_option maxRecDepth 100000 in
theorem f67 (w : World) (d0 : Int) (A0 : Option Addr) (n0 c0 : Nat) (l0 : List (Int × Int)) (d1 : Int) (A1 : Option Addr) (n1 c1 : Nat) (l1 : List (Int × Int)) (d2 : Int) (A2 : Option Addr) (n2 c2 : Nat) (l2 : List (Int × Int)) (d3 : Int) (A3 : Option Addr) (n3 c3 : Nat) (l3 : List (Int × Int)) (d4 : Int) (A4 : Option Addr) (n4 c4 : Nat) (l4 : List (Int × Int)) (d5 : Int) (A5 : Option Addr) (n5 c5 : Nat) (l5 : List (Int × Int)) (t0 : CatsAt w w.heap.size A0 n0 c0 l0) (z0 : n0 ≤ 67108864) (t1 : CatsAt w w.heap.size A1 n1 c1 l1) (z1 : n1 ≤ 67108864) (t2 : CatsAt w w.heap.size A2 n2 c2 l2) (z2 : n2 ≤ 67108864) (t3 : CatsAt w w.heap.size A3 n3 c3 l3) (z3 : n3 ≤ 67108864) (t4 : CatsAt w w.heap.size A4 n4 c4 l4) (z4 : n4 ≤ 67108864) (t5 : CatsAt w w.heap.size A5 n5 c5 l5) (z5 : n5 ≤ 67108864) :
    Calls Try.prog 67 #[.agg #[.int .i64 d0, .slice A0 n0 c0], .agg #[.int .i64 d1, .slice A1 n1 c1], .agg #[.int .i64 d2, .slice A2 n2 c2], .agg #[.int .i64 d3, .slice A3 n3 c3], .agg #[.int .i64 d4, .slice A4 n4 c4], .agg #[.int .i64 d5, .slice A5 n5 c5]] w fun e w' => e = .returned (.bool (entersB d0 l0 d1 l1 d2 l2 d3 l3 d4 l4 d5 l5)) ∧ Below w.heap.size w w' := by
  have mixed : Try.prog.follows .mixedOrders = true := by kernel_rfl
  obtain ⟨q0, q1, q2, q3, q4, q5, q6⟩ := six_blk w #[.int .i64 d0, .slice A0 n0 c0] #[.int .i64 d1, .slice A1 n1 c1] #[.int .i64 d2, .slice A2 n2 c2] #[.int .i64 d3, .slice A3 n3 c3] #[.int .i64 d4, .slice A4 n4 c4] #[.int .i64 d5, .slice A5 n5 c5] 26 26 26 26 26 26
  have HB := hid q0
  have HP0 := hid q1
  have HP1 := hid q2
  have HP2 := hid q3
  have HP3 := hid q4
  have HP4 := hid q5
  have HP5 := hid q6
  have H0 := hid ((t0.below q0).more q0.size)
  have H1 := hid ((t1.below q0).more q0.size)
  have H2 := hid ((t2.below q0).more q0.size)
  have H3 := hid ((t3.below q0).more q0.size)
  have H4 := hid ((t4.below q0).more q0.size)
  have H5 := hid ((t5.below q0).more q0.size)
  have HE : Hid ((entersB d0 l0 d1 l1 d2 l2 d3 l3 d4 l4 d5 l5) = ((!((((!(rightB d4 l4)) || (!(rightB d5 l5))) || (!(pureD d5 l5))) || (!(leqB d0 l0 d3 l3)))) && ((leqB (leastD d0 d2) (leastL d0 l0 d2 l2) d4 l4 && leqB d4 l4 d5 l5) && leqB d5 l5 (max d1 d3) (joinL d1 l1 d3 l3)))) := by show _ = _; unfold entersB whoB; rw [← pure_both]; simp [Bool.and_assoc]
  clear t0 t1 t2 t3 t4 t5 q0 q1 q2 q3 q4 q5 q6
  go_enter Try.func67, Try.ntmps67
  go_wp2_with (refine wp_list_told 19 19 nil_ rfl (by decide) ?_)
  generalize (((((w.alloc (.cells #[.int .i64 d0, .slice A0 n0 c0] 26)).alloc (.cells #[.int .i64 d1, .slice A1 n1 c1] 26)).alloc (.cells #[.int .i64 d2, .slice A2 n2 c2] 26)).alloc (.cells #[.int .i64 d3, .slice A3 n3 c3] 26)).alloc (.cells #[.int .i64 d4, .slice A4 n4 c4] 26)).alloc (.cells #[.int .i64 d5, .slice A5 n5 c5] 26) = wa at *
  have HF : Hid (∀ W, But nil_ wa W → (W.cell? ⟨w.heap.size, 0, none⟩ = some (.int .i64 d0) ∧ W.cell? ⟨w.heap.size, 1, none⟩ = some (.slice A0 n0 c0)) ∧ (W.cell? ⟨w.heap.size + 1, 0, none⟩ = some (.int .i64 d1) ∧ W.cell? ⟨w.heap.size + 1, 1, none⟩ = some (.slice A1 n1 c1)) ∧ (W.cell? ⟨w.heap.size + 1 + 1, 0, none⟩ = some (.int .i64 d2) ∧ W.cell? ⟨w.heap.size + 1 + 1, 1, none⟩ = some (.slice A2 n2 c2)) ∧ (W.cell? ⟨w.heap.size + 1 + 1 + 1, 0, none⟩ = some (.int .i64 d3) ∧ W.cell? ⟨w.heap.size + 1 + 1 + 1, 1, none⟩ = some (.slice A3 n3 c3)) ∧ (W.cell? ⟨w.heap.size + 1 + 1 + 1 + 1, 0, none⟩ = some (.int .i64 d4) ∧ W.cell? ⟨w.heap.size + 1 + 1 + 1 + 1, 1, none⟩ = some (.slice A4 n4 c4)) ∧ (W.cell? ⟨w.heap.size + 1 + 1 + 1 + 1 + 1, 0, none⟩ = some (.int .i64 d5) ∧ W.cell? ⟨w.heap.size + 1 + 1 + 1 + 1 + 1, 1, none⟩ = some (.slice A5 n5 c5))) := fun W hW => ⟨(hW.blk HP0.out (fun h => h)).cells2, (hW.blk HP1.out (fun h => h)).cells2, (hW.blk HP2.out (fun h => h)).cells2, (hW.blk HP3.out (fun h => h)).cells2, (hW.blk HP4.out (fun h => h)).cells2, (hW.blk HP5.out (fun h => h)).cells2⟩
  try simp only [List.take_succ_cons, List.take_zero, List.drop_succ_cons, List.drop_zero]
  have HA := hid (fun W (hW : But nil_ wa W) => right52 W d4 A4 n4 c4 l4 (H4.out.since_ hW))
  have HB_ := hid (fun W (hW : But nil_ wa W) => right52 W d5 A5 n5 c5 l5 (H5.out.since_ hW))
  have HU := hid (fun W (hW : But nil_ wa W) => pure114 W d5 A5 n5 c5 l5 (H5.out.since_ hW))
  have HL := hid (fun W (hW : But nil_ wa W) => leq41_b W d0 d3 A0 A3 n0 c0 n3 c3 l0 l3 (H0.out.since_ hW) (H3.out.since_ hW) (by omega))
  have HS0 := hid H0.out.len
  have HS2 := hid H2.out.len
  have HS1 := hid H1.out.len
  have HS3 := hid H3.out.len
  have HLL := hid (leastL_len d0 l0 d2 l2)
  generalize rightB d4 l4 = q1 at *
  generalize rightB d5 l5 = q2 at *
  generalize pureD d5 l5 = q3 at *
  generalize leqB d0 l0 d3 l3 = q4 at *
  repeat (refine told_val (v := ?_) (fun _ => rfl) (fun vs W hW => ?_) ?_; rotate_left; (focus (have hf := HF.out W hW; clear hW; go_simp; exact loose_val)); simp only [Act.put, List.setIfInBounds_toArray, List.set_cons_zero, List.set_cons_succ, List.nil_append, List.cons_append, Nat.reduceAdd, Leaves.at])
  refine told_val (v := .bool q1) (fun _ => rfl) (fun vs W hW => ?_) ?_
  · go_simp
    exact loose_call (HA.out W hW)
  simp only [Act.put, List.setIfInBounds_toArray, List.set_cons_zero, List.set_cons_succ, List.nil_append, List.cons_append, Nat.reduceAdd, Leaves.at]
  repeat (refine told_val (v := ?_) (fun _ => rfl) (fun vs W hW => ?_) ?_; rotate_left; (focus (have hf := HF.out W hW; clear hW; go_simp; exact loose_val)); simp only [Act.put, List.setIfInBounds_toArray, List.set_cons_zero, List.set_cons_succ, List.nil_append, List.cons_append, Nat.reduceAdd, Leaves.at])
  generalize (!q1) = g1 at *
  repeat (refine told_not (b := g1) (v := ?_) (fun _ => Bool.casesOn g1 rfl rfl) (fun hb vs W hW => ?_) ?_; rotate_left; (focus (have hf := HF.out W hW; clear hW; (try simp only [hb, cond_true, cond_false]); go_simp; exact loose_val)); simp only [Act.put, List.setIfInBounds_toArray, List.set_cons_zero, List.set_cons_succ, List.nil_append, List.cons_append, Nat.reduceAdd, Leaves.at])
  refine told_not (b := g1) (v := .bool q2) (fun _ => Bool.casesOn g1 rfl rfl) (fun hb vs W hW => ?_) ?_
  · try simp only [hb, cond_true, cond_false]
    go_simp
    exact loose_call (HB_.out W hW)
  simp only [Act.put, List.setIfInBounds_toArray, List.set_cons_zero, List.set_cons_succ, List.nil_append, List.cons_append, Nat.reduceAdd, Leaves.at]
  repeat (refine told_not (b := g1) (v := ?_) (fun _ => Bool.casesOn g1 rfl rfl) (fun hb vs W hW => ?_) ?_; rotate_left; (focus (have hf := HF.out W hW; clear hW; (try simp only [hb, cond_true, cond_false]); go_simp; exact loose_val)); simp only [Act.put, List.setIfInBounds_toArray, List.set_cons_zero, List.set_cons_succ, List.nil_append, List.cons_append, Nat.reduceAdd, Leaves.at])
  refine told_val (v := .bool (g1 || !q2)) (fun _ => rfl) (fun vs W hW => ?_) ?_
  · cases g1 <;> cases q2 <;> (go_simp; exact loose_val)
  simp only [Act.put, List.setIfInBounds_toArray, List.set_cons_zero, List.set_cons_succ, List.nil_append, List.cons_append, Nat.reduceAdd, Leaves.at]
  generalize (g1 || !q2) = g2 at *
  repeat (refine told_val (v := ?_) (fun _ => rfl) (fun vs W hW => ?_) ?_; rotate_left; (focus (have hf := HF.out W hW; clear hW; go_simp; exact loose_val)); simp only [Act.put, List.setIfInBounds_toArray, List.set_cons_zero, List.set_cons_succ, List.nil_append, List.cons_append, Nat.reduceAdd, Leaves.at])
  repeat (refine told_not (b := g2) (v := ?_) (fun _ => Bool.casesOn g2 rfl rfl) (fun hb vs W hW => ?_) ?_; rotate_left; (focus (have hf := HF.out W hW; clear hW; (try simp only [hb, cond_true, cond_false]); go_simp; exact loose_val)); simp only [Act.put, List.setIfInBounds_toArray, List.set_cons_zero, List.set_cons_succ, List.nil_append, List.cons_append, Nat.reduceAdd, Leaves.at])
  refine told_not (b := g2) (v := .bool q3) (fun _ => Bool.casesOn g2 rfl rfl) (fun hb vs W hW => ?_) ?_
  · try simp only [hb, cond_true, cond_false]
    go_simp
    exact loose_call (HU.out W hW)
  simp only [Act.put, List.setIfInBounds_toArray, List.set_cons_zero, List.set_cons_succ, List.nil_append, List.cons_append, Nat.reduceAdd, Leaves.at]
  repeat (refine told_not (b := g2) (v := ?_) (fun _ => Bool.casesOn g2 rfl rfl) (fun hb vs W hW => ?_) ?_; rotate_left; (focus (have hf := HF.out W hW; clear hW; (try simp only [hb, cond_true, cond_false]); go_simp; exact loose_val)); simp only [Act.put, List.setIfInBounds_toArray, List.set_cons_zero, List.set_cons_succ, List.nil_append, List.cons_append, Nat.reduceAdd, Leaves.at])
  refine told_val (v := .bool (g2 || !q3)) (fun _ => rfl) (fun vs W hW => ?_) ?_
  · cases g2 <;> cases q3 <;> (go_simp; exact loose_val)
  simp only [Act.put, List.setIfInBounds_toArray, List.set_cons_zero, List.set_cons_succ, List.nil_append, List.cons_append, Nat.reduceAdd, Leaves.at]
  generalize (g2 || !q3) = g3 at *
  repeat (refine told_val (v := ?_) (fun _ => rfl) (fun vs W hW => ?_) ?_; rotate_left; (focus (have hf := HF.out W hW; clear hW; go_simp; exact loose_val)); simp only [Act.put, List.setIfInBounds_toArray, List.set_cons_zero, List.set_cons_succ, List.nil_append, List.cons_append, Nat.reduceAdd, Leaves.at])
  repeat (refine told_not (b := g3) (v := ?_) (fun _ => Bool.casesOn g3 rfl rfl) (fun hb vs W hW => ?_) ?_; rotate_left; (focus (have hf := HF.out W hW; clear hW; (try simp only [hb, cond_true, cond_false]); go_simp; exact loose_val)); simp only [Act.put, List.setIfInBounds_toArray, List.set_cons_zero, List.set_cons_succ, List.nil_append, List.cons_append, Nat.reduceAdd, Leaves.at])
  refine told_not (b := g3) (v := .bool q4) (fun _ => Bool.casesOn g3 rfl rfl) (fun hb vs W hW => ?_) ?_
  · try simp only [hb, cond_true, cond_false]
    go_simp
    exact loose_call (HL.out W hW)
  simp only [Act.put, List.setIfInBounds_toArray, List.set_cons_zero, List.set_cons_succ, List.nil_append, List.cons_append, Nat.reduceAdd, Leaves.at]
  repeat (refine told_not (b := g3) (v := ?_) (fun _ => Bool.casesOn g3 rfl rfl) (fun hb vs W hW => ?_) ?_; rotate_left; (focus (have hf := HF.out W hW; clear hW; (try simp only [hb, cond_true, cond_false]); go_simp; exact loose_val)); simp only [Act.put, List.setIfInBounds_toArray, List.set_cons_zero, List.set_cons_succ, List.nil_append, List.cons_append, Nat.reduceAdd, Leaves.at])
  refine told_val (v := .bool (g3 || !q4)) (fun _ => rfl) (fun vs W hW => ?_) ?_
  · cases g3 <;> cases q4 <;> (go_simp; exact loose_val)
  simp only [Act.put, List.setIfInBounds_toArray, List.set_cons_zero, List.set_cons_succ, List.nil_append, List.cons_append, Nat.reduceAdd, Leaves.at]
  generalize (g3 || !q4) = g4 at *
  refine told_nil ?_
  intro vs W1 hW1 hok hap
  clear hap
  dsimp only
  have HW1 := hid hW1
  have HB1 := hid (HB.out.trans (since_below hW1 HB.out.size))
  have HF1 := hid (fun W (hW : But nil_ W1 W) => HF.out W (HW1.out.trans hW))
  clear hok hW1
  cases g4 with
  | true =>
    go_wp2_with fail
    go_ret
    exact ⟨by rw [HE.out]; rfl, HB1.out⟩
  | false =>
    go_wp2_with fail
    refine wp_region_told 7 nil_ mixed (by kernel_rfl) ?_
    simp only [List.take_succ_cons, List.take_zero, List.drop_succ_cons, List.drop_zero]
    repeat (refine told_val (v := ?_) (fun _ => rfl) (fun vs W hW => ?_) ?_; rotate_left; (focus (have hf := HF1.out W hW; clear hW; go_simp; exact loose_val)); simp only [Act.put, List.setIfInBounds_toArray, List.set_cons_zero, List.set_cons_succ, List.nil_append, List.cons_append, Nat.reduceAdd, Leaves.at])
    refine told_rel (LabR (turnF 0 5 d0 d0) (raiseL d0 l0)) LabR.stable (fun _ => rfl) (fun vs W hW hd => ?_) ?_
    · clear hd
      go_simp
      exact loose_callR (raise112 W d0 A0 n0 c0 l0 (H0.out.since_ (HW1.out.trans hW)) (by omega))
    simp only [Act.put, List.setIfInBounds_toArray, List.set_cons_zero, List.set_cons_succ, List.nil_append, List.cons_append, Nat.reduceAdd, Leaves.at]
    repeat (refine told_val (v := ?_) (fun _ => rfl) (fun vs W hW => ?_) ?_; rotate_left; (focus (have hf := HF1.out W hW; clear hW; go_simp; exact loose_val)); simp only [Act.put, List.setIfInBounds_toArray, List.set_cons_zero, List.set_cons_succ, List.nil_append, List.cons_append, Nat.reduceAdd, Leaves.at])
    refine told_rel (LabR (turnF 0 5 d2 d2) (raiseL d2 l2)) LabR.stable (fun _ => rfl) (fun vs W hW hd => ?_) ?_
    · clear hd
      go_simp
      exact loose_callR (raise112 W d2 A2 n2 c2 l2 (H2.out.since_ (HW1.out.trans hW)) (by omega))
    simp only [Act.put, List.setIfInBounds_toArray, List.set_cons_zero, List.set_cons_succ, List.nil_append, List.cons_append, Nat.reduceAdd, Leaves.at]
    refine told_rel (LabR (max (turnF 0 5 d0 d0) (turnF 0 5 d2 d2)) (joinL (turnF 0 5 d0 d0) (raiseL d0 l0) (turnF 0 5 d2 d2) (raiseL d2 l2))) LabR.stable (fun _ => rfl) (fun vs W hW hd => ?_) ?_
    · obtain ⟨P1, m1, k1, e1, hT1⟩ := hd ⟨1, .data⟩ (by simp) rfl _ rfl (fun h => by cases h)
      obtain ⟨P3, m3, k3, e3, hT3⟩ := hd ⟨3, .data⟩ (by simp) rfl _ rfl (fun h => by cases h)
      clear hd
      go_simp
      exact loose_callR (merge45_join W _ _ P1 P3 m1 k1 m3 k3 _ _ hT1 hT3 (by have := hT1.len; have := hT3.len; have := raiseL_len d0 l0; have := raiseL_len d2 l2; have := HS0.out; have := HS2.out; omega))
    simp only [Act.put, List.setIfInBounds_toArray, List.set_cons_zero, List.set_cons_succ, List.nil_append, List.cons_append, Nat.reduceAdd, Leaves.at]
    refine told_rel (LabR (leastD d0 d2) (leastL d0 l0 d2 l2)) LabR.stable (fun _ => rfl) (fun vs W hW hd => ?_) ?_
    · obtain ⟨P4, m4, k4, e4, hT4⟩ := hd ⟨4, .data⟩ (by simp) rfl _ rfl (fun h => by cases h)
      clear hd
      go_simp
      exact loose_callR (turn47_lower W _ P4 m4 k4 _ hT4 (by have := hT4.len; have := joinL_len (turnF 0 5 d0 d0) (raiseL d0 l0) (turnF 0 5 d2 d2) (raiseL d2 l2); have := raiseL_len d0 l0; have := raiseL_len d2 l2; have := HS0.out; have := HS2.out; omega))
    simp only [Act.put, List.setIfInBounds_toArray, List.set_cons_zero, List.set_cons_succ, List.nil_append, List.cons_append, Nat.reduceAdd, Leaves.at]
    refine told_fresh (NewPtr W1.heap.size 26 #[.int .i64 0, .slice none 0 0]) (NewPtr.fresh (fun _ hk => by first | exact hk.elim | (have := hk; omega))) (fun _ => rfl) (fun vs W hW hd => ?_) ?_
    · go_simp
      exact loose_freshPtr hW.size
    simp only [Act.put, List.setIfInBounds_toArray, List.set_cons_zero, List.set_cons_succ, List.nil_append, List.cons_append, Nat.reduceAdd, Leaves.at]
    refine told_nil ?_
    intro vs W hW hok hap
    dsimp only
    obtain ⟨X, nx, cx, e7, hX⟩ := hok 5 _ rfl rfl
    obtain ⟨⟨p, e8, hp, kp⟩, -⟩ := hok 6 _ rfl rfl
    rw [e7, e8]
    have HW := hid hW
    have HX := hid hX
    have KP := hid kp
    obtain ⟨⟨z10, z11⟩, z12, z13⟩ := label_zero kp
    clear hok hap hW hX kp e7 e8
    generalize leastD d0 d2 = dl at *
    generalize leastL d0 l0 d2 l2 = ll at *
    go_wp2_with fail
    obtain ⟨Wp, hwp, K1, BW⟩ := put1 KP.out (.int .i64 dl) (.slice X nx cx)
    rw [hwp]
    have hs := HW.out.size
    have hs2 := BW.size
    have hs1 := HW1.out.size
    have HX2 := hid ((HX.out.keep (Nat.le_refl _) BW fun g hg => by subst hg; exact bare26 KP.out).more hs2)
    have HBp : Hid (Below wa.heap.size wa Wp) := BW.done (since_below (HW1.out.trans HW.out) (Nat.le_refl _)) (fun k hk => by subst hk; omega) (by omega)
    have H12 := hid ((H1.out.below HBp.out).more HBp.out.size)
    have H32 := hid ((H3.out.below HBp.out).more HBp.out.size)
    have H42 := hid ((H4.out.below HBp.out).more HBp.out.size)
    have H52 := hid ((H5.out.below HBp.out).more HBp.out.size)
    have HQ1 := hid (HP1.out.below HBp.out HP1.out.lt)
    have HQ3 := hid (HP3.out.below HBp.out HP3.out.lt)
    have HQ4 := hid (HP4.out.below HBp.out HP4.out.lt)
    have HQ5 := hid (HP5.out.below HBp.out HP5.out.lt)
    have HB3 := hid (HB.out.trans (HBp.out.mono HB.out.size))
    have HNX := hid HX.out.len
    have K1 := hid K1
    clear hwp BW hs hs2 z10 z11 z12 z13
    have HF2 : Hid (∀ W, But nil_ Wp W → ((W.cell? ⟨w.heap.size + 1, 0, none⟩ = some (.int .i64 d1) ∧ W.cell? ⟨w.heap.size + 1, 1, none⟩ = some (.slice A1 n1 c1)) ∧ (W.cell? ⟨w.heap.size + 1 + 1 + 1, 0, none⟩ = some (.int .i64 d3) ∧ W.cell? ⟨w.heap.size + 1 + 1 + 1, 1, none⟩ = some (.slice A3 n3 c3))) ∧ (((W.cell? ⟨w.heap.size + 1 + 1 + 1 + 1, 0, none⟩ = some (.int .i64 d4) ∧ W.cell? ⟨w.heap.size + 1 + 1 + 1 + 1, 1, none⟩ = some (.slice A4 n4 c4)) ∧ (W.cell? ⟨w.heap.size + 1 + 1 + 1 + 1 + 1, 0, none⟩ = some (.int .i64 d5) ∧ W.cell? ⟨w.heap.size + 1 + 1 + 1 + 1 + 1, 1, none⟩ = some (.slice A5 n5 c5))) ∧ (W.cell? ⟨p, 0, none⟩ = some (.int .i64 dl) ∧ W.cell? ⟨p, 1, none⟩ = some (.slice X nx cx)))) :=
      fun W hW => ⟨⟨(hW.blk HQ1.out (fun h => h)).cells2, (hW.blk HQ3.out (fun h => h)).cells2⟩, ⟨(hW.blk HQ4.out (fun h => h)).cells2, (hW.blk HQ5.out (fun h => h)).cells2⟩, (hW.blk K1.out (fun h => h)).cells2⟩
    have HL1 := hid (fun W (hW : But nil_ Wp W) => leq41_b W dl d4 X A4 nx cx n4 c4 ll l4 (HX2.out.since_ hW) (H42.out.since_ hW) (by have := HNX.out; have := HLL.out; have := HS0.out; have := HS2.out; omega))
    have HL2 := hid (fun W (hW : But nil_ Wp W) => leq41_b W d4 d5 A4 A5 n4 c4 n5 c5 l4 l5 (H42.out.since_ hW) (H52.out.since_ hW) (by omega))
    generalize leqB dl ll d4 l4 = r1 at *
    generalize leqB d4 l4 d5 l5 = r2 at *
    refine wp_region_told 16 nil_ mixed (by kernel_rfl) ?_
    simp only [List.take_succ_cons, List.take_zero, List.drop_succ_cons, List.drop_zero]
    repeat (refine told_val (v := ?_) (fun _ => rfl) (fun vs W hW => ?_) ?_; rotate_left; (focus (have hf := HF2.out W hW; clear hW; go_simp; exact loose_val)); simp only [Act.put, List.setIfInBounds_toArray, List.set_cons_zero, List.set_cons_succ, List.nil_append, List.cons_append, Nat.reduceAdd, Leaves.at])
    refine told_val (v := .bool r1) (fun _ => rfl) (fun vs W hW => ?_) ?_
    · go_simp
      exact loose_call (HL1.out W hW)
    simp only [Act.put, List.setIfInBounds_toArray, List.set_cons_zero, List.set_cons_succ, List.nil_append, List.cons_append, Nat.reduceAdd, Leaves.at]
    repeat (refine told_val (v := ?_) (fun _ => rfl) (fun vs W hW => ?_) ?_; rotate_left; (focus (have hf := HF2.out W hW; clear hW; go_simp; exact loose_val)); simp only [Act.put, List.setIfInBounds_toArray, List.set_cons_zero, List.set_cons_succ, List.nil_append, List.cons_append, Nat.reduceAdd, Leaves.at])
    repeat (refine told_maybe (b := r1) (v := ?_) (fun _ => Bool.casesOn r1 rfl rfl) (fun hb vs W hW => ?_) ?_; rotate_left; (focus (have hf := HF2.out W hW; clear hW; (try simp only [hb, cond_true, cond_false]); go_simp; exact loose_val)); simp only [Act.put, List.setIfInBounds_toArray, List.set_cons_zero, List.set_cons_succ, List.nil_append, List.cons_append, Nat.reduceAdd, Leaves.at])
    refine told_maybe (b := r1) (v := .bool r2) (fun _ => Bool.casesOn r1 rfl rfl) (fun hb vs W hW => ?_) ?_
    · try simp only [hb, cond_true, cond_false]
      go_simp
      exact loose_call (HL2.out W hW)
    simp only [Act.put, List.setIfInBounds_toArray, List.set_cons_zero, List.set_cons_succ, List.nil_append, List.cons_append, Nat.reduceAdd, Leaves.at]
    refine told_val (v := .bool (r1 && r2)) (fun _ => rfl) (fun vs W hW => ?_) ?_
    · cases r1 <;> cases r2 <;> (go_simp; exact loose_val)
    simp only [Act.put, List.setIfInBounds_toArray, List.set_cons_zero, List.set_cons_succ, List.nil_append, List.cons_append, Nat.reduceAdd, Leaves.at]
    generalize (r1 && r2) = s1 at *
    repeat (refine told_val (v := ?_) (fun _ => rfl) (fun vs W hW => ?_) ?_; rotate_left; (focus (have hf := HF2.out W hW; clear hW; go_simp; exact loose_val)); simp only [Act.put, List.setIfInBounds_toArray, List.set_cons_zero, List.set_cons_succ, List.nil_append, List.cons_append, Nat.reduceAdd, Leaves.at])
    cases s1 with
    | false =>
      repeat (first | (refine told_off (fun _ => rfl) ?_; simp only [Act.put, List.setIfInBounds_toArray, List.set_cons_zero, List.set_cons_succ, List.nil_append, List.cons_append, Nat.reduceAdd, Leaves.at]) | (refine told_val (v := ?_) (fun _ => rfl) (fun vs W hW => ?_) ?_; rotate_left; (focus (have hf := HF2.out W hW; clear hW; go_simp; exact loose_val)); simp only [Act.put, List.setIfInBounds_toArray, List.set_cons_zero, List.set_cons_succ, List.nil_append, List.cons_append, Nat.reduceAdd, Leaves.at]))
      refine told_nil ?_
      intro vs W3 hW3 hok hap
      clear hap
      dsimp only
      have HB4 := hid (HB3.out.trans (since_below hW3 HB3.out.size))
      clear hok hW3
      go_wp2_with fail
      go_ret
      exact ⟨by rw [HE.out]; rfl, HB4.out⟩
    | true =>
      repeat (refine told_val (v := ?_) (fun _ => rfl) (fun vs W hW => ?_) ?_; rotate_left; (focus (have hf := HF2.out W hW; clear hW; go_simp; exact loose_val)); simp only [Act.put, List.setIfInBounds_toArray, List.set_cons_zero, List.set_cons_succ, List.nil_append, List.cons_append, Nat.reduceAdd, Leaves.at])
      refine told_rel (LabR (max d1 d3) (joinL d1 l1 d3 l3)) LabR.stable (fun _ => rfl) (fun vs W hW hd => ?_) ?_
      · clear hd
        go_simp
        exact loose_callR (merge45_join W d1 d3 A1 A3 n1 c1 n3 c3 l1 l3 (H12.out.since_ hW) (H32.out.since_ hW) (by omega))
      simp only [Act.put, List.setIfInBounds_toArray, List.set_cons_zero, List.set_cons_succ, List.nil_append, List.cons_append, Nat.reduceAdd, Leaves.at]
      refine told_val' (v := .bool (leqB d5 l5 (max d1 d3) (joinL d1 l1 d3 l3))) (fun _ => rfl) (fun vs W hW hd => ?_) ?_
      · obtain ⟨P12, m12, k12, e12, hT12⟩ := hd ⟨12, .data⟩ (by simp) rfl _ rfl (fun h => by cases h)
        clear hd
        go_simp
        exact loose_call (leq41_b W _ _ A5 P12 n5 c5 m12 k12 l5 _ (H52.out.since_ hW) hT12 (by have := hT12.len; have := joinL_len d1 l1 d3 l3; have := HS1.out; have := HS3.out; omega))
      simp only [Act.put, List.setIfInBounds_toArray, List.set_cons_zero, List.set_cons_succ, List.nil_append, List.cons_append, Nat.reduceAdd, Leaves.at]
      repeat (refine told_val (v := ?_) (fun _ => rfl) (fun vs W hW => ?_) ?_; rotate_left; (focus (have hf := HF2.out W hW; clear hW; go_simp; exact loose_val)); simp only [Act.put, List.setIfInBounds_toArray, List.set_cons_zero, List.set_cons_succ, List.nil_append, List.cons_append, Nat.reduceAdd, Leaves.at])
      refine told_nil ?_
      intro vs W3 hW3 hok hap
      clear hap
      dsimp only
      have HB4 := hid (HB3.out.trans (since_below hW3 HB3.out.size))
      clear hok hW3
      go_wp2_with fail
      go_ret
      exact ⟨by rw [HE.out]; rfl, HB4.out⟩

set_option maxHeartbeats 4000000 in
set_option maxRecDepth 100000 in
theorem f115v (w : World) (d0 : Int) (A0 : Option Addr) (n0 c0 : Nat) (l0 : List (Int × Int)) (e0 : Int) (E0 : Option Addr) (m0 k0 : Nat) (r0 : List (Int × Int)) (t0 : CatsAt w w.heap.size A0 n0 c0 l0) (z0 : n0 ≤ 8796093022207) (u0 : CatsAt w w.heap.size E0 m0 k0 r0) (y0 : m0 ≤ 8796093022207) :
    Calls Try.prog 115 #[.agg #[.int .i64 d0, .slice A0 n0 c0, .int .i64 e0, .slice E0 m0 k0]] w fun e w' => e = .returned (.bool (whoB d0 l0 e0 r0)) ∧ Below w.heap.size w w' := by
  have mixed : Try.prog.follows .mixedOrders = true := by kernel_rfl
  have HB : Hid (Below w.heap.size w (w.alloc (.cells #[.int .i64 d0, .slice A0 n0 c0, .int .i64 e0, .slice E0 m0 k0] 43))) := (Below.refl _ w).alloc (Nat.le_refl _) _
  have HP0 : Hid (Blk (w.alloc (.cells #[.int .i64 d0, .slice A0 n0 c0, .int .i64 e0, .slice E0 m0 k0] 43)) w.heap.size 43 #[.int .i64 d0, .slice A0 n0 c0, .int .i64 e0, .slice E0 m0 k0]) := Blk.new w _ _
  have H0 := hid ((t0.below HB.out).more HB.out.size)
  have G0 := hid ((u0.below HB.out).more HB.out.size)
  have HE : Hid ((whoB d0 l0 e0 r0) = (rightB d0 l0 && pureB e0 r0)) := by show _ = _; rfl
  clear t0 u0
  go_enter Try.func115, Try.ntmps115
  go_wp2_with (refine wp_list_told 9 9 nil_ rfl (by decide) ?_)
  generalize w.alloc (.cells #[.int .i64 d0, .slice A0 n0 c0, .int .i64 e0, .slice E0 m0 k0] 43) = wa at *
  have HF : Hid (∀ W, But nil_ wa W → (W.cell? ⟨w.heap.size, 0, none⟩ = some (.int .i64 d0) ∧ W.cell? ⟨w.heap.size, 1, none⟩ = some (.slice A0 n0 c0) ∧ W.cell? ⟨w.heap.size, 2, none⟩ = some (.int .i64 e0) ∧ W.cell? ⟨w.heap.size, 3, none⟩ = some (.slice E0 m0 k0))) := fun W hW => (hW.blk HP0.out (fun h => h)).cells4
  try simp only [List.take_succ_cons, List.take_zero, List.drop_succ_cons, List.drop_zero]
  have HA := hid (fun W (hW : But nil_ wa W) => right51 W d0 A0 n0 c0 l0 (H0.out.since_ hW))
  have HL := hid (fun W (hW : But nil_ wa W) => pure113 W e0 E0 m0 k0 r0 (G0.out.since_ hW))
  generalize rightB d0 l0 = q at *
  generalize pureB e0 r0 = p at *
  repeat (refine told_val (v := ?_) (fun _ => rfl) (fun vs W hW => ?_) ?_; rotate_left; (focus (have hf := HF.out W hW; clear hW; go_simp; exact loose_val)); simp only [Act.put, List.setIfInBounds_toArray, List.set_cons_zero, List.set_cons_succ, List.nil_append, List.cons_append, Nat.reduceAdd, Leaves.at])
  refine told_val (v := .bool q) (fun _ => rfl) (fun vs W hW => ?_) ?_
  · go_simp
    exact loose_call (HA.out W hW)
  simp only [Act.put, List.setIfInBounds_toArray, List.set_cons_zero, List.set_cons_succ, List.nil_append, List.cons_append, Nat.reduceAdd, Leaves.at]
  repeat (refine told_val (v := ?_) (fun _ => rfl) (fun vs W hW => ?_) ?_; rotate_left; (focus (have hf := HF.out W hW; clear hW; go_simp; exact loose_val)); simp only [Act.put, List.setIfInBounds_toArray, List.set_cons_zero, List.set_cons_succ, List.nil_append, List.cons_append, Nat.reduceAdd, Leaves.at])
  repeat (refine told_maybe (b := q) (v := ?_) (fun _ => Bool.casesOn q rfl rfl) (fun hb vs W hW => ?_) ?_; rotate_left; (focus (have hf := HF.out W hW; clear hW; (try simp only [hb, cond_true, cond_false]); go_simp; exact loose_val)); simp only [Act.put, List.setIfInBounds_toArray, List.set_cons_zero, List.set_cons_succ, List.nil_append, List.cons_append, Nat.reduceAdd, Leaves.at])
  refine told_maybe (b := q) (v := .bool p) (fun _ => Bool.casesOn q rfl rfl) (fun hb vs W hW => ?_) ?_
  · try simp only [hb, cond_true, cond_false]
    go_simp
    exact loose_call (HL.out W hW)
  simp only [Act.put, List.setIfInBounds_toArray, List.set_cons_zero, List.set_cons_succ, List.nil_append, List.cons_append, Nat.reduceAdd, Leaves.at]
  refine told_val (v := .bool (q && p)) (fun _ => rfl) (fun vs W hW => ?_) ?_
  · cases q <;> cases p <;> (go_simp; exact loose_val)
  simp only [Act.put, List.setIfInBounds_toArray, List.set_cons_zero, List.set_cons_succ, List.nil_append, List.cons_append, Nat.reduceAdd, Leaves.at]
  repeat (refine told_val (v := ?_) (fun _ => rfl) (fun vs W hW => ?_) ?_; rotate_left; (focus (have hf := HF.out W hW; clear hW; go_simp; exact loose_val)); simp only [Act.put, List.setIfInBounds_toArray, List.set_cons_zero, List.set_cons_succ, List.nil_append, List.cons_append, Nat.reduceAdd, Leaves.at])
  refine told_nil ?_
  intro vs W hW hok hap
  clear hap
  dsimp only
  have HB2 := hid (HB.out.trans (since_below hW HB.out.size))
  clear hok hW
  go_wp2_with fail
  go_ret
  exact ⟨by rw [HE.out]; rfl, HB2.out⟩

set_option maxHeartbeats 4000000 in
set_option maxRecDepth 100000 in
theorem f66v (w : World) (d0 : Int) (A0 : Option Addr) (n0 c0 : Nat) (l0 : List (Int × Int)) (e0 : Int) (E0 : Option Addr) (m0 k0 : Nat) (r0 : List (Int × Int)) (d1 : Int) (A1 : Option Addr) (n1 c1 : Nat) (l1 : List (Int × Int)) (e1 : Int) (E1 : Option Addr) (m1 k1 : Nat) (r1 : List (Int × Int)) (d2 : Int) (A2 : Option Addr) (n2 c2 : Nat) (l2 : List (Int × Int)) (e2 : Int) (E2 : Option Addr) (m2 k2 : Nat) (r2 : List (Int × Int)) (t0 : CatsAt w w.heap.size A0 n0 c0 l0) (z0 : n0 ≤ 67108864) (u0 : CatsAt w w.heap.size E0 m0 k0 r0) (y0 : m0 ≤ 67108864) (t1 : CatsAt w w.heap.size A1 n1 c1 l1) (z1 : n1 ≤ 67108864) (u1 : CatsAt w w.heap.size E1 m1 k1 r1) (y1 : m1 ≤ 67108864) (t2 : CatsAt w w.heap.size A2 n2 c2 l2) (z2 : n2 ≤ 8796093022207) (u2 : CatsAt w w.heap.size E2 m2 k2 r2) (y2 : m2 ≤ 8796093022207) :
    Calls Try.prog 66 #[.agg #[.int .i64 d0, .slice A0 n0 c0, .int .i64 e0, .slice E0 m0 k0], .agg #[.int .i64 d1, .slice A1 n1 c1, .int .i64 e1, .slice E1 m1 k1], .agg #[.int .i64 d2, .slice A2 n2 c2, .int .i64 e2, .slice E2 m2 k2]] w fun e w' => e = .returned (.bool (entersB d0 l0 e0 r0 d1 l1 e1 r1 d2 l2 e2 r2)) ∧ Below w.heap.size w w' := by
  have mixed : Try.prog.follows .mixedOrders = true := by kernel_rfl
  obtain ⟨q0, q1, q2, q3⟩ := three_blk w #[.int .i64 d0, .slice A0 n0 c0, .int .i64 e0, .slice E0 m0 k0] #[.int .i64 d1, .slice A1 n1 c1, .int .i64 e1, .slice E1 m1 k1] #[.int .i64 d2, .slice A2 n2 c2, .int .i64 e2, .slice E2 m2 k2] 43 43 43
  have HB := hid q0
  have HP0 := hid q1
  have HP1 := hid q2
  have HP2 := hid q3
  have H0 := hid ((t0.below q0).more q0.size)
  have G0 := hid ((u0.below q0).more q0.size)
  have H1 := hid ((t1.below q0).more q0.size)
  have G1 := hid ((u1.below q0).more q0.size)
  have H2 := hid ((t2.below q0).more q0.size)
  have G2 := hid ((u2.below q0).more q0.size)
  have HE : Hid ((entersB d0 l0 e0 r0 d1 l1 e1 r1 d2 l2 e2 r2) = ((whoB d2 l2 e2 r2 && risesP [(d0, l0), (e1, r1)]) && risesP [(leastD d0 d1, leastL d0 l0 d1 l1), (d2, l2), (e2, r2), (max e0 e1, joinL e0 r0 e1 r1)])) := by show _ = _; unfold entersB; simp [risesP]
  clear t0 u0 t1 u1 t2 u2 q0 q1 q2 q3
  go_enter Try.func66, Try.ntmps66
  go_wp2_with fail
  generalize ((w.alloc (.cells #[.int .i64 d0, .slice A0 n0 c0, .int .i64 e0, .slice E0 m0 k0] 43)).alloc (.cells #[.int .i64 d1, .slice A1 n1 c1, .int .i64 e1, .slice E1 m1 k1] 43)).alloc (.cells #[.int .i64 d2, .slice A2 n2 c2, .int .i64 e2, .slice E2 m2 k2] 43) = wa at *
  have HF : Hid (∀ W, But nil_ wa W → (W.cell? ⟨w.heap.size, 0, none⟩ = some (.int .i64 d0) ∧ W.cell? ⟨w.heap.size, 1, none⟩ = some (.slice A0 n0 c0) ∧ W.cell? ⟨w.heap.size, 2, none⟩ = some (.int .i64 e0) ∧ W.cell? ⟨w.heap.size, 3, none⟩ = some (.slice E0 m0 k0)) ∧ (W.cell? ⟨w.heap.size + 1, 0, none⟩ = some (.int .i64 d1) ∧ W.cell? ⟨w.heap.size + 1, 1, none⟩ = some (.slice A1 n1 c1) ∧ W.cell? ⟨w.heap.size + 1, 2, none⟩ = some (.int .i64 e1) ∧ W.cell? ⟨w.heap.size + 1, 3, none⟩ = some (.slice E1 m1 k1)) ∧ (W.cell? ⟨w.heap.size + 1 + 1, 0, none⟩ = some (.int .i64 d2) ∧ W.cell? ⟨w.heap.size + 1 + 1, 1, none⟩ = some (.slice A2 n2 c2) ∧ W.cell? ⟨w.heap.size + 1 + 1, 2, none⟩ = some (.int .i64 e2) ∧ W.cell? ⟨w.heap.size + 1 + 1, 3, none⟩ = some (.slice E2 m2 k2))) := fun W hW => ⟨(hW.blk HP0.out (fun h => h)).cells4, (hW.blk HP1.out (fun h => h)).cells4, (hW.blk HP2.out (fun h => h)).cells4⟩
  refine wp_region_told 9 nil_ mixed (by kernel_rfl) ?_
  simp only [List.take_succ_cons, List.take_zero, List.drop_succ_cons, List.drop_zero]
  have HS0 := hid H0.out.len
  have HS1 := hid H1.out.len
  repeat (refine told_val (v := ?_) (fun _ => rfl) (fun vs W hW => ?_) ?_; rotate_left; (focus (have hf := HF.out W hW; clear hW; go_simp; exact loose_val)); simp only [Act.put, List.setIfInBounds_toArray, List.set_cons_zero, List.set_cons_succ, List.nil_append, List.cons_append, Nat.reduceAdd, Leaves.at])
  refine told_rel (LabR (turnF 0 5 d0 d0) (raiseL d0 l0)) LabR.stable (fun _ => rfl) (fun vs W hW hd => ?_) ?_
  · clear hd
    go_simp
    exact loose_callR (raise46_l W d0 A0 n0 c0 l0 (H0.out.since_ hW) (by omega))
  simp only [Act.put, List.setIfInBounds_toArray, List.set_cons_zero, List.set_cons_succ, List.nil_append, List.cons_append, Nat.reduceAdd, Leaves.at]
  repeat (refine told_val (v := ?_) (fun _ => rfl) (fun vs W hW => ?_) ?_; rotate_left; (focus (have hf := HF.out W hW; clear hW; go_simp; exact loose_val)); simp only [Act.put, List.setIfInBounds_toArray, List.set_cons_zero, List.set_cons_succ, List.nil_append, List.cons_append, Nat.reduceAdd, Leaves.at])
  refine told_rel (LabR (turnF 0 5 d1 d1) (raiseL d1 l1)) LabR.stable (fun _ => rfl) (fun vs W hW hd => ?_) ?_
  · clear hd
    go_simp
    exact loose_callR (raise46_l W d1 A1 n1 c1 l1 (H1.out.since_ hW) (by omega))
  simp only [Act.put, List.setIfInBounds_toArray, List.set_cons_zero, List.set_cons_succ, List.nil_append, List.cons_append, Nat.reduceAdd, Leaves.at]
  refine told_rel (LabR (max (turnF 0 5 d0 d0) (turnF 0 5 d1 d1)) (joinL (turnF 0 5 d0 d0) (raiseL d0 l0) (turnF 0 5 d1 d1) (raiseL d1 l1))) LabR.stable (fun _ => rfl) (fun vs W hW hd => ?_) ?_
  · obtain ⟨P2, m2, k2, e2, hT2⟩ := hd ⟨2, .data⟩ (by simp) rfl _ rfl (fun h => by cases h)
    obtain ⟨P5, m5, k5, e5, hT5⟩ := hd ⟨5, .data⟩ (by simp) rfl _ rfl (fun h => by cases h)
    clear hd
    go_simp
    exact loose_callR (join43_l W _ _ P2 P5 m2 k2 m5 k5 _ _ hT2 hT5 (by have := hT2.len; have := hT5.len; have := raiseL_len d0 l0; have := raiseL_len d1 l1; have := HS0.out; have := HS1.out; omega))
  simp only [Act.put, List.setIfInBounds_toArray, List.set_cons_zero, List.set_cons_succ, List.nil_append, List.cons_append, Nat.reduceAdd, Leaves.at]
  refine told_rel (LabR (leastD d0 d1) (leastL d0 l0 d1 l1)) LabR.stable (fun _ => rfl) (fun vs W hW hd => ?_) ?_
  · obtain ⟨P6, m6, k6, e6, hT6⟩ := hd ⟨6, .data⟩ (by simp) rfl _ rfl (fun h => by cases h)
    clear hd
    go_simp
    exact loose_callR (lower48_l W _ P6 m6 k6 _ hT6 (by have := hT6.len; have := joinL_len (turnF 0 5 d0 d0) (raiseL d0 l0) (turnF 0 5 d1 d1) (raiseL d1 l1); have := raiseL_len d0 l0; have := raiseL_len d1 l1; have := HS0.out; have := HS1.out; omega))
  simp only [Act.put, List.setIfInBounds_toArray, List.set_cons_zero, List.set_cons_succ, List.nil_append, List.cons_append, Nat.reduceAdd, Leaves.at]
  refine told_fresh (NewPtr wa.heap.size 26 #[.int .i64 0, .slice none 0 0]) (NewPtr.fresh (fun _ hk => by first | exact hk.elim | (have := hk; omega))) (fun _ => rfl) (fun vs W hW hd => ?_) ?_
  · go_simp
    exact loose_freshPtr hW.size
  simp only [Act.put, List.setIfInBounds_toArray, List.set_cons_zero, List.set_cons_succ, List.nil_append, List.cons_append, Nat.reduceAdd, Leaves.at]
  refine told_nil ?_
  intro vs W hW hok hap
  dsimp only
  obtain ⟨X, nx, cx, e7, hX⟩ := hok 7 _ rfl rfl
  obtain ⟨⟨p, e8, hp, kp⟩, -⟩ := hok 8 _ rfl rfl
  rw [e7, e8]
  have HW := hid hW
  have HX := hid hX
  have KP := hid kp
  obtain ⟨⟨z10, z11⟩, z12, z13⟩ := label_zero kp
  clear hok hap hW hX kp e7 e8
  have HLL := hid (leastL_len d0 l0 d1 l1)
  generalize leastD d0 d1 = dl at *
  generalize leastL d0 l0 d1 l1 = ll at *
  go_wp2_with fail
  obtain ⟨Wp, hwp, K1, BW⟩ := put1 KP.out (.int .i64 dl) (.slice X nx cx)
  rw [hwp]
  have hs := HW.out.size
  have hs2 := BW.size
  have HX2 := hid ((HX.out.keep (Nat.le_refl _) BW fun g hg => by subst hg; exact bare26 KP.out).more hs2)
  have HBp : Hid (Below wa.heap.size wa Wp) := BW.done (since_below HW.out (Nat.le_refl _)) (fun k hk => by subst hk; omega) hs
  have H02 := hid ((H0.out.below HBp.out).more HBp.out.size)
  have G02 := hid ((G0.out.below HBp.out).more HBp.out.size)
  have G12 := hid ((G1.out.below HBp.out).more HBp.out.size)
  have H22 := hid ((H2.out.below HBp.out).more HBp.out.size)
  have G22 := hid ((G2.out.below HBp.out).more HBp.out.size)
  have HQ0 := hid (HP0.out.below HBp.out HP0.out.lt)
  have HQ1 := hid (HP1.out.below HBp.out HP1.out.lt)
  have HQ2 := hid (HP2.out.below HBp.out HP2.out.lt)
  have HB1 := hid (HB.out.trans (HBp.out.mono HB.out.size))
  have K1 := hid K1
  clear hwp BW hs hs2 z10 z11 z12 z13
  have HF2 : Hid (∀ W, But nil_ Wp W → ((W.cell? ⟨w.heap.size, 0, none⟩ = some (.int .i64 d0) ∧ W.cell? ⟨w.heap.size, 1, none⟩ = some (.slice A0 n0 c0) ∧ W.cell? ⟨w.heap.size, 2, none⟩ = some (.int .i64 e0) ∧ W.cell? ⟨w.heap.size, 3, none⟩ = some (.slice E0 m0 k0)) ∧ (W.cell? ⟨w.heap.size + 1, 0, none⟩ = some (.int .i64 d1) ∧ W.cell? ⟨w.heap.size + 1, 1, none⟩ = some (.slice A1 n1 c1) ∧ W.cell? ⟨w.heap.size + 1, 2, none⟩ = some (.int .i64 e1) ∧ W.cell? ⟨w.heap.size + 1, 3, none⟩ = some (.slice E1 m1 k1))) ∧ ((W.cell? ⟨w.heap.size + 1 + 1, 0, none⟩ = some (.int .i64 d2) ∧ W.cell? ⟨w.heap.size + 1 + 1, 1, none⟩ = some (.slice A2 n2 c2) ∧ W.cell? ⟨w.heap.size + 1 + 1, 2, none⟩ = some (.int .i64 e2) ∧ W.cell? ⟨w.heap.size + 1 + 1, 3, none⟩ = some (.slice E2 m2 k2)) ∧ (W.cell? ⟨p, 0, none⟩ = some (.int .i64 dl) ∧ W.cell? ⟨p, 1, none⟩ = some (.slice X nx cx)))) :=
    fun W hW => ⟨⟨(hW.blk HQ0.out (fun h => h)).cells4, (hW.blk HQ1.out (fun h => h)).cells4⟩, (hW.blk HQ2.out (fun h => h)).cells4, (hW.blk K1.out (fun h => h)).cells2⟩
  have HPU := hid (fun W (hW : But nil_ Wp W) => f115v W d2 A2 n2 c2 l2 e2 E2 m2 k2 r2 (H22.out.since_ hW) z2 (G22.out.since_ hW) y2)
  generalize whoB d2 l2 e2 r2 = q at *
  obtain ⟨pp, hpp⟩ : ∃ pp, risesP [(d0, l0), (e1, r1)] = pp := ⟨_, rfl⟩
  rw [hpp] at HE
  have HPP := hid hpp
  clear hpp
  refine wp_region_told 25 nil_ mixed (by kernel_rfl) ?_
  simp only [List.take_succ_cons, List.take_zero, List.drop_succ_cons, List.drop_zero]
  repeat (refine told_val (v := ?_) (fun _ => rfl) (fun vs W hW => ?_) ?_; rotate_left; (focus (have hf := HF2.out W hW; clear hW; go_simp; exact loose_val)); simp only [Act.put, List.setIfInBounds_toArray, List.set_cons_zero, List.set_cons_succ, List.nil_append, List.cons_append, Nat.reduceAdd, Leaves.at])
  refine told_val (v := .bool q) (fun _ => rfl) (fun vs W hW => ?_) ?_
  · go_simp
    exact loose_call (HPU.out W hW)
  simp only [Act.put, List.setIfInBounds_toArray, List.set_cons_zero, List.set_cons_succ, List.nil_append, List.cons_append, Nat.reduceAdd, Leaves.at]
  repeat (refine told_val (v := ?_) (fun _ => rfl) (fun vs W hW => ?_) ?_; rotate_left; (focus (have hf := HF2.out W hW; clear hW; go_simp; exact loose_val)); simp only [Act.put, List.setIfInBounds_toArray, List.set_cons_zero, List.set_cons_succ, List.nil_append, List.cons_append, Nat.reduceAdd, Leaves.at])
  cases q with
  | false =>
    repeat (first | (refine told_off (fun _ => rfl) ?_; simp only [Act.put, List.setIfInBounds_toArray, List.set_cons_zero, List.set_cons_succ, List.nil_append, List.cons_append, Nat.reduceAdd, Leaves.at]) | (refine told_val (v := ?_) (fun _ => rfl) (fun vs W hW => ?_) ?_; rotate_left; (focus (have hf := HF2.out W hW; clear hW; go_simp; exact loose_val)); simp only [Act.put, List.setIfInBounds_toArray, List.set_cons_zero, List.set_cons_succ, List.nil_append, List.cons_append, Nat.reduceAdd, Leaves.at]))
    refine told_nil ?_
    intro vs W2 hW2 hok hap
    clear hap
    dsimp only
    have HB2 := hid (HB1.out.trans (since_below hW2 HB1.out.size))
    clear hok hW2
    go_wp2_with fail
    go_ret
    exact ⟨by rw [HE.out]; rfl, HB2.out⟩
  | true =>
    repeat (refine told_val (v := ?_) (fun _ => rfl) (fun vs W hW => ?_) ?_; rotate_left; (focus (have hf := HF2.out W hW; clear hW; go_simp; exact loose_val)); simp only [Act.put, List.setIfInBounds_toArray, List.set_cons_zero, List.set_cons_succ, List.nil_append, List.cons_append, Nat.reduceAdd, Leaves.at])
    refine told_rel (LabsR [(d0, l0), (e1, r1)]) LabsR.stable (fun _ => rfl) (fun vs W hW hd => ?_) ?_
    · clear hd
      have hf := HF2.out W hW
      have hmem := hid (List.forall_mem_cons.2 ⟨H02.out.since_ hW, List.forall_mem_cons.2 ⟨G12.out.since_ hW, fun _ h => nomatch h⟩⟩ : ∀ l ∈ [(⟨d0, A0, n0, c0, l0⟩ : LabV), (⟨e1, E1, m1, k1, r1⟩ : LabV)], l.at_ W)
      clear hW
      go_simp
      exact loose_labs _ hmem.out
    simp only [Act.put, List.setIfInBounds_toArray, List.set_cons_zero, List.set_cons_succ, List.nil_append, List.cons_append, Nat.reduceAdd, Leaves.at]
    refine told_val' (v := .bool pp) (fun _ => rfl) (fun vs W hW hd => ?_) ?_
    · have hl := hd ⟨7, .data⟩ (by simp) rfl _ rfl (fun h => by cases h)
      have hr := rises_R hl (by simp) (by simp)
      rw [HPP.out] at hr
      have hr := hid hr
      clear hd hl
      go_simp
      exact loose_call hr.out
    simp only [Act.put, List.setIfInBounds_toArray, List.set_cons_zero, List.set_cons_succ, List.nil_append, List.cons_append, Nat.reduceAdd, Leaves.at]
    repeat (refine told_val (v := ?_) (fun _ => rfl) (fun vs W hW => ?_) ?_; rotate_left; (focus (have hf := HF2.out W hW; clear hW; go_simp; exact loose_val)); simp only [Act.put, List.setIfInBounds_toArray, List.set_cons_zero, List.set_cons_succ, List.nil_append, List.cons_append, Nat.reduceAdd, Leaves.at])
    cases pp with
    | false =>
      repeat (first | (refine told_off (fun _ => rfl) ?_; simp only [Act.put, List.setIfInBounds_toArray, List.set_cons_zero, List.set_cons_succ, List.nil_append, List.cons_append, Nat.reduceAdd, Leaves.at]) | (refine told_val (v := ?_) (fun _ => rfl) (fun vs W hW => ?_) ?_; rotate_left; (focus (have hf := HF2.out W hW; clear hW; go_simp; exact loose_val)); simp only [Act.put, List.setIfInBounds_toArray, List.set_cons_zero, List.set_cons_succ, List.nil_append, List.cons_append, Nat.reduceAdd, Leaves.at]))
      refine told_nil ?_
      intro vs W2 hW2 hok hap
      clear hap
      dsimp only
      have HB2 := hid (HB1.out.trans (since_below hW2 HB1.out.size))
      clear hok hW2
      go_wp2_with fail
      go_ret
      exact ⟨by rw [HE.out]; rfl, HB2.out⟩
    | true =>
      repeat (refine told_val (v := ?_) (fun _ => rfl) (fun vs W hW => ?_) ?_; rotate_left; (focus (have hf := HF2.out W hW; clear hW; go_simp; exact loose_val)); simp only [Act.put, List.setIfInBounds_toArray, List.set_cons_zero, List.set_cons_succ, List.nil_append, List.cons_append, Nat.reduceAdd, Leaves.at])
      refine told_rel (LabR (max e0 e1) (joinL e0 r0 e1 r1)) LabR.stable (fun _ => rfl) (fun vs W hW hd => ?_) ?_
      · clear hd
        go_simp
        exact loose_callR (join43_l W e0 e1 E0 E1 m0 k0 m1 k1 r0 r1 (G02.out.since_ hW) (G12.out.since_ hW) (by omega))
      simp only [Act.put, List.setIfInBounds_toArray, List.set_cons_zero, List.set_cons_succ, List.nil_append, List.cons_append, Nat.reduceAdd, Leaves.at]
      refine told_rel (LabsR [(dl, ll), (d2, l2), (e2, r2), (max e0 e1, joinL e0 r0 e1 r1)]) LabsR.stable (fun _ => rfl) (fun vs W hW hd => ?_) ?_
      · obtain ⟨P20, m20', k20', e20', hT20⟩ := hd ⟨20, .data⟩ (by simp) rfl _ rfl (fun h => by cases h)
        clear hd
        have hf := HF2.out W hW
        have hmem := hid (List.forall_mem_cons.2 ⟨HX2.out.since_ hW, List.forall_mem_cons.2 ⟨H22.out.since_ hW, List.forall_mem_cons.2 ⟨G22.out.since_ hW, List.forall_mem_cons.2 ⟨hT20, fun _ h => nomatch h⟩⟩⟩⟩ : ∀ l ∈ [(⟨dl, X, nx, cx, ll⟩ : LabV), (⟨d2, A2, n2, c2, l2⟩ : LabV), (⟨e2, E2, m2, k2, r2⟩ : LabV), (⟨max e0 e1, P20, m20', k20', joinL e0 r0 e1 r1⟩ : LabV)], l.at_ W)
        clear hW
        go_simp
        exact loose_labs _ hmem.out
      simp only [Act.put, List.setIfInBounds_toArray, List.set_cons_zero, List.set_cons_succ, List.nil_append, List.cons_append, Nat.reduceAdd, Leaves.at]
      refine told_val' (v := .bool (risesP [(dl, ll), (d2, l2), (e2, r2), (max e0 e1, joinL e0 r0 e1 r1)])) (fun _ => rfl) (fun vs W hW hd => ?_) ?_
      · have hl := hd ⟨21, .data⟩ (by simp) rfl _ rfl (fun h => by cases h)
        have hr := hid (rises_R hl (by simp) (by simp))
        clear hd hl
        go_simp
        exact loose_call hr.out
      simp only [Act.put, List.setIfInBounds_toArray, List.set_cons_zero, List.set_cons_succ, List.nil_append, List.cons_append, Nat.reduceAdd, Leaves.at]
      repeat (refine told_val (v := ?_) (fun _ => rfl) (fun vs W hW => ?_) ?_; rotate_left; (focus (have hf := HF2.out W hW; clear hW; go_simp; exact loose_val)); simp only [Act.put, List.setIfInBounds_toArray, List.set_cons_zero, List.set_cons_succ, List.nil_append, List.cons_append, Nat.reduceAdd, Leaves.at])
      refine told_nil ?_
      intro vs W2 hW2 hok hap
      clear hap
      dsimp only
      have HB2 := hid (HB1.out.trans (since_below hW2 HB1.out.size))
      clear hok hW2
      go_wp2_with fail
      go_ret
      exact ⟨by rw [HE.out]; rfl, HB2.out⟩

set_option maxHeartbeats 4000000 in
set_option maxRecDepth 100000 in
theorem f67n (w : World) (d0 : Int) (A0 : Option Addr) (n0 c0 : Nat) (l0 : List (Int × Int)) (d1 : Int) (A1 : Option Addr) (n1 c1 : Nat) (l1 : List (Int × Int)) (d2 : Int) (A2 : Option Addr) (n2 c2 : Nat) (l2 : List (Int × Int)) (d3 : Int) (A3 : Option Addr) (n3 c3 : Nat) (l3 : List (Int × Int)) (d4 : Int) (A4 : Option Addr) (n4 c4 : Nat) (l4 : List (Int × Int)) (d5 : Int) (A5 : Option Addr) (n5 c5 : Nat) (l5 : List (Int × Int)) (t0 : CatsAt w w.heap.size A0 n0 c0 l0) (t1 : CatsAt w w.heap.size A1 n1 c1 l1) (t2 : CatsAt w w.heap.size A2 n2 c2 l2) (t3 : CatsAt w w.heap.size A3 n3 c3 l3) (t4 : CatsAt w w.heap.size A4 n4 c4 l4) (t5 : CatsAt w w.heap.size A5 n5 c5 l5) (hq : (rightB d4 l4 && rightB d5 l5) = false) :
    Calls Try.prog 67 #[.agg #[.int .i64 d0, .slice A0 n0 c0], .agg #[.int .i64 d1, .slice A1 n1 c1], .agg #[.int .i64 d2, .slice A2 n2 c2], .agg #[.int .i64 d3, .slice A3 n3 c3], .agg #[.int .i64 d4, .slice A4 n4 c4], .agg #[.int .i64 d5, .slice A5 n5 c5]] w fun e w' => e = .returned (.bool (entersB d0 l0 d1 l1 d2 l2 d3 l3 d4 l4 d5 l5)) ∧ Below w.heap.size w w' := by
  have mixed : Try.prog.follows .mixedOrders = true := by kernel_rfl
  obtain ⟨q0, q1, q2, q3, q4, q5, q6⟩ := six_blk w #[.int .i64 d0, .slice A0 n0 c0] #[.int .i64 d1, .slice A1 n1 c1] #[.int .i64 d2, .slice A2 n2 c2] #[.int .i64 d3, .slice A3 n3 c3] #[.int .i64 d4, .slice A4 n4 c4] #[.int .i64 d5, .slice A5 n5 c5] 26 26 26 26 26 26
  have HB := hid q0
  have HP0 := hid q1
  have HP1 := hid q2
  have HP2 := hid q3
  have HP3 := hid q4
  have HP4 := hid q5
  have HP5 := hid q6
  have H0 := hid ((t0.below q0).more q0.size)
  have H1 := hid ((t1.below q0).more q0.size)
  have H2 := hid ((t2.below q0).more q0.size)
  have H3 := hid ((t3.below q0).more q0.size)
  have H4 := hid ((t4.below q0).more q0.size)
  have H5 := hid ((t5.below q0).more q0.size)
  have HE : Hid ((entersB d0 l0 d1 l1 d2 l2 d3 l3 d4 l4 d5 l5) = ((!((((!(rightB d4 l4)) || (!(rightB d5 l5))) || (!(pureD d5 l5))) || (!(leqB d0 l0 d3 l3)))) && ((leqB (leastD d0 d2) (leastL d0 l0 d2 l2) d4 l4 && leqB d4 l4 d5 l5) && leqB d5 l5 (max d1 d3) (joinL d1 l1 d3 l3)))) := by show _ = _; unfold entersB whoB; rw [← pure_both]; simp [Bool.and_assoc]
  have HQ := hid hq
  clear hq t0 t1 t2 t3 t4 t5 q0 q1 q2 q3 q4 q5 q6
  go_enter Try.func67, Try.ntmps67
  go_wp2_with (refine wp_list_told 19 19 nil_ rfl (by decide) ?_)
  generalize (((((w.alloc (.cells #[.int .i64 d0, .slice A0 n0 c0] 26)).alloc (.cells #[.int .i64 d1, .slice A1 n1 c1] 26)).alloc (.cells #[.int .i64 d2, .slice A2 n2 c2] 26)).alloc (.cells #[.int .i64 d3, .slice A3 n3 c3] 26)).alloc (.cells #[.int .i64 d4, .slice A4 n4 c4] 26)).alloc (.cells #[.int .i64 d5, .slice A5 n5 c5] 26) = wa at *
  have HF : Hid (∀ W, But nil_ wa W → (W.cell? ⟨w.heap.size, 0, none⟩ = some (.int .i64 d0) ∧ W.cell? ⟨w.heap.size, 1, none⟩ = some (.slice A0 n0 c0)) ∧ (W.cell? ⟨w.heap.size + 1, 0, none⟩ = some (.int .i64 d1) ∧ W.cell? ⟨w.heap.size + 1, 1, none⟩ = some (.slice A1 n1 c1)) ∧ (W.cell? ⟨w.heap.size + 1 + 1, 0, none⟩ = some (.int .i64 d2) ∧ W.cell? ⟨w.heap.size + 1 + 1, 1, none⟩ = some (.slice A2 n2 c2)) ∧ (W.cell? ⟨w.heap.size + 1 + 1 + 1, 0, none⟩ = some (.int .i64 d3) ∧ W.cell? ⟨w.heap.size + 1 + 1 + 1, 1, none⟩ = some (.slice A3 n3 c3)) ∧ (W.cell? ⟨w.heap.size + 1 + 1 + 1 + 1, 0, none⟩ = some (.int .i64 d4) ∧ W.cell? ⟨w.heap.size + 1 + 1 + 1 + 1, 1, none⟩ = some (.slice A4 n4 c4)) ∧ (W.cell? ⟨w.heap.size + 1 + 1 + 1 + 1 + 1, 0, none⟩ = some (.int .i64 d5) ∧ W.cell? ⟨w.heap.size + 1 + 1 + 1 + 1 + 1, 1, none⟩ = some (.slice A5 n5 c5))) := fun W hW => ⟨(hW.blk HP0.out (fun h => h)).cells2, (hW.blk HP1.out (fun h => h)).cells2, (hW.blk HP2.out (fun h => h)).cells2, (hW.blk HP3.out (fun h => h)).cells2, (hW.blk HP4.out (fun h => h)).cells2, (hW.blk HP5.out (fun h => h)).cells2⟩
  try simp only [List.take_succ_cons, List.take_zero, List.drop_succ_cons, List.drop_zero]
  have HA := hid (fun W (hW : But nil_ wa W) => right52 W d4 A4 n4 c4 l4 (H4.out.since_ hW))
  have HB_ := hid (fun W (hW : But nil_ wa W) => right52 W d5 A5 n5 c5 l5 (H5.out.since_ hW))
  generalize rightB d4 l4 = q1 at *
  generalize rightB d5 l5 = q2 at *
  cases q1 with
  | false =>
    repeat (refine told_val (v := ?_) (fun _ => rfl) (fun vs W hW => ?_) ?_; rotate_left; (focus (have hf := HF.out W hW; clear hW; go_simp; exact loose_val)); simp only [Act.put, List.setIfInBounds_toArray, List.set_cons_zero, List.set_cons_succ, List.nil_append, List.cons_append, Nat.reduceAdd, Leaves.at])
    refine told_val (v := .bool false) (fun _ => rfl) (fun vs W hW => ?_) ?_
    · go_simp
      exact loose_call (HA.out W hW)
    simp only [Act.put, List.setIfInBounds_toArray, List.set_cons_zero, List.set_cons_succ, List.nil_append, List.cons_append, Nat.reduceAdd, Leaves.at]
    repeat (first | (refine told_off (fun _ => rfl) ?_; simp only [Act.put, List.setIfInBounds_toArray, List.set_cons_zero, List.set_cons_succ, List.nil_append, List.cons_append, Nat.reduceAdd, Leaves.at]) | (refine told_val (v := ?_) (fun _ => rfl) (fun vs W hW => ?_) ?_; rotate_left; (focus (have hf := HF.out W hW; clear hW; go_simp; exact loose_val)); simp only [Act.put, List.setIfInBounds_toArray, List.set_cons_zero, List.set_cons_succ, List.nil_append, List.cons_append, Nat.reduceAdd, Leaves.at]))
    refine told_nil ?_
    intro vs W hW hok hap
    clear hap
    dsimp only
    have HB1 := hid (HB.out.trans (since_below hW HB.out.size))
    clear hok hW
    go_wp2_with fail
    go_ret
    exact ⟨by rw [HE.out]; rfl, HB1.out⟩
  | true =>
    obtain rfl : q2 = false := by have := HQ.out; simpa using this
    repeat (refine told_val (v := ?_) (fun _ => rfl) (fun vs W hW => ?_) ?_; rotate_left; (focus (have hf := HF.out W hW; clear hW; go_simp; exact loose_val)); simp only [Act.put, List.setIfInBounds_toArray, List.set_cons_zero, List.set_cons_succ, List.nil_append, List.cons_append, Nat.reduceAdd, Leaves.at])
    refine told_val (v := .bool true) (fun _ => rfl) (fun vs W hW => ?_) ?_
    · go_simp
      exact loose_call (HA.out W hW)
    simp only [Act.put, List.setIfInBounds_toArray, List.set_cons_zero, List.set_cons_succ, List.nil_append, List.cons_append, Nat.reduceAdd, Leaves.at]
    repeat (refine told_val (v := ?_) (fun _ => rfl) (fun vs W hW => ?_) ?_; rotate_left; (focus (have hf := HF.out W hW; clear hW; go_simp; exact loose_val)); simp only [Act.put, List.setIfInBounds_toArray, List.set_cons_zero, List.set_cons_succ, List.nil_append, List.cons_append, Nat.reduceAdd, Leaves.at])
    refine told_val (v := .bool false) (fun _ => rfl) (fun vs W hW => ?_) ?_
    · go_simp
      exact loose_call (HB_.out W hW)
    simp only [Act.put, List.setIfInBounds_toArray, List.set_cons_zero, List.set_cons_succ, List.nil_append, List.cons_append, Nat.reduceAdd, Leaves.at]
    repeat (first | (refine told_off (fun _ => rfl) ?_; simp only [Act.put, List.setIfInBounds_toArray, List.set_cons_zero, List.set_cons_succ, List.nil_append, List.cons_append, Nat.reduceAdd, Leaves.at]) | (refine told_val (v := ?_) (fun _ => rfl) (fun vs W hW => ?_) ?_; rotate_left; (focus (have hf := HF.out W hW; clear hW; go_simp; exact loose_val)); simp only [Act.put, List.setIfInBounds_toArray, List.set_cons_zero, List.set_cons_succ, List.nil_append, List.cons_append, Nat.reduceAdd, Leaves.at]))
    refine told_nil ?_
    intro vs W hW hok hap
    clear hap
    dsimp only
    have HB1 := hid (HB.out.trans (since_below hW HB.out.size))
    clear hok hW
    go_wp2_with fail
    go_ret
    exact ⟨by rw [HE.out]; rfl, HB1.out⟩
theorem right_len {d : Int} {cs : List (Int × Int)} (h : rightB d cs = true) : cs.length ≤ 6 := by
  unfold rightB at h
  simp only [Bool.and_eq_true, decide_eq_true_eq] at h
  exact h.1.2.2
theorem f67v (w : World) (d0 : Int) (A0 : Option Addr) (n0 c0 : Nat) (l0 : List (Int × Int)) (d1 : Int) (A1 : Option Addr) (n1 c1 : Nat) (l1 : List (Int × Int)) (d2 : Int) (A2 : Option Addr) (n2 c2 : Nat) (l2 : List (Int × Int)) (d3 : Int) (A3 : Option Addr) (n3 c3 : Nat) (l3 : List (Int × Int)) (d4 : Int) (A4 : Option Addr) (n4 c4 : Nat) (l4 : List (Int × Int)) (d5 : Int) (A5 : Option Addr) (n5 c5 : Nat) (l5 : List (Int × Int)) (t0 : CatsAt w w.heap.size A0 n0 c0 l0) (z0 : n0 ≤ 67108864) (t1 : CatsAt w w.heap.size A1 n1 c1 l1) (z1 : n1 ≤ 67108864) (t2 : CatsAt w w.heap.size A2 n2 c2 l2) (z2 : n2 ≤ 67108864) (t3 : CatsAt w w.heap.size A3 n3 c3 l3) (z3 : n3 ≤ 67108864) (t4 : CatsAt w w.heap.size A4 n4 c4 l4) (z4 : n4 ≤ 8796093022207) (t5 : CatsAt w w.heap.size A5 n5 c5 l5) (z5 : n5 ≤ 8796093022207) :
    Calls Try.prog 67 #[.agg #[.int .i64 d0, .slice A0 n0 c0], .agg #[.int .i64 d1, .slice A1 n1 c1], .agg #[.int .i64 d2, .slice A2 n2 c2], .agg #[.int .i64 d3, .slice A3 n3 c3], .agg #[.int .i64 d4, .slice A4 n4 c4], .agg #[.int .i64 d5, .slice A5 n5 c5]] w fun e w' => e = .returned (.bool (entersB d0 l0 d1 l1 d2 l2 d3 l3 d4 l4 d5 l5)) ∧ Below w.heap.size w w' := by
  cases hq : (rightB d4 l4 && rightB d5 l5) with
  | false => exact f67n w d0 A0 n0 c0 l0 d1 A1 n1 c1 l1 d2 A2 n2 c2 l2 d3 A3 n3 c3 l3 d4 A4 n4 c4 l4 d5 A5 n5 c5 l5 t0 t1 t2 t3 t4 t5 hq
  | true =>
    rw [Bool.and_eq_true] at hq
    have h4 := right_len hq.1
    have h5 := right_len hq.2
    rw [t4.len] at h4
    rw [t5.len] at h5
    exact f67 w d0 A0 n0 c0 l0 d1 A1 n1 c1 l1 d2 A2 n2 c2 l2 d3 A3 n3 c3 l3 d4 A4 n4 c4 l4 d5 A5 n5 c5 l5 t0 z0 t1 z1 t2 z2 t3 z3 t4 (by omega) t5 (by omega)
end Go.Proofs.Ytndohmimcbmhdaa

/- Things whose slices lie in known blocks; what a drawn region leaves of them. -/
set_option linter.unusedVariables false
set_option linter.unusedSimpArgs false
namespace Go.Proofs.Ytndohmimcbmhdaa
open Go.RowKit Go.Sort

/-- A slice that holds something lies in such a block. -/
def SlIn (S : Nat → Prop) (s : Sl) : Prop := 0 < s.n → ∀ a, s.a = some a → S a.block
structure ThS (S : Nat → Prop) (W : World) (t : Th) (p : Tl) : Prop where
  at_ : ThAt W t p
  b1 : SlIn S t.l1
  b2 : SlIn S t.l2
  b3 : SlIn S t.links
  b4 : SlIn S t.data
theorem SlIn.mono {S S' : Nat → Prop} {s : Sl} (h : SlIn S s) (hs : ∀ k, S k → S' k) : SlIn S' s := fun hn a e => hs _ (h hn a e)
theorem ThS.mono {S S' : Nat → Prop} {W : World} {t : Th} {p : Tl} (h : ThS S W t p) (hs : ∀ k, S k → S' k) : ThS S' W t p := ⟨h.at_, h.b1.mono hs, h.b2.mono hs, h.b3.mono hs, h.b4.mono hs⟩
theorem keep_cats {D S : Nat → Prop} {w w' : World} {s : Sl} {cs : List (Int × Int)} (h : CatsAt w w.heap.size s.a s.n s.c cs) (hs : SlIn S s) (hb : But D w w') (hD : ∀ k, S k → ¬ D k) : CatsAt w' w'.heap.size s.a s.n s.c cs := by
  refine ⟨h.len, h.cap, h.max, fun hn => ?_⟩
  obtain ⟨b, off, e, hlt, hc⟩ := h.cells hn
  have hB := hs hn _ e
  have hx : ∀ o, w'.cell? ⟨b, o, none⟩ = w.cell? ⟨b, o, none⟩ := fun o => by
    simp only [World.cell?, hb.block b hlt (hD b hB)]
  exact ⟨b, off, e, Nat.lt_of_lt_of_le hlt hb.size, fun i x hi => ⟨(hx _).trans (hc i x hi).1, (hx _).trans (hc i x hi).2⟩⟩
theorem keep_bytes {D S : Nat → Prop} {w w' : World} {s : Sl} {cs : List Int} (h : BytesAt w w.heap.size s.a s.n s.c cs) (hs : SlIn S s) (hb : But D w w') (hD : ∀ k, S k → ¬ D k) : BytesAt w' w'.heap.size s.a s.n s.c cs := by
  refine ⟨h.len, h.cap, h.max, h.fit, fun hn => ?_⟩
  obtain ⟨b, off, e, hlt, hc⟩ := h.cells hn
  have hB := hs hn _ e
  have hx : ∀ o, w'.cell? ⟨b, o, none⟩ = w.cell? ⟨b, o, none⟩ := fun o => by
    simp only [World.cell?, hb.block b hlt (hD b hB)]
  exact ⟨b, off, e, Nat.lt_of_lt_of_le hlt hb.size, fun i x hi => (hx _).trans (hc i x hi)⟩
theorem ThS.keep {D S : Nat → Prop} {w w' : World} {t : Th} {p : Tl} (h : ThS S w t p) (hb : But D w w') (hD : ∀ k, S k → ¬ D k) : ThS S w' t p :=
  ⟨⟨keep_cats h.at_.c1 h.b1 hb hD, keep_cats h.at_.c2 h.b2 hb hD, keep_cats h.at_.lk h.b3 hb hD, keep_bytes h.at_.dt h.b4 hb hD⟩, h.b1, h.b2, h.b3, h.b4⟩
theorem SlIn.cats {w : World} {B : Nat} {s : Sl} {cs : List (Int × Int)} (h : CatsAt w B s.a s.n s.c cs) : SlIn (fun k => k < B) s := fun hn a e => by
  obtain ⟨b, off, e', hlt, _⟩ := h.cells hn
  rw [e] at e'; cases e'; exact hlt
theorem SlIn.bytes {w : World} {B : Nat} {s : Sl} {cs : List Int} (h : BytesAt w B s.a s.n s.c cs) : SlIn (fun k => k < B) s := fun hn a e => by
  obtain ⟨b, off, e', hlt, _⟩ := h.cells hn
  rw [e] at e'; cases e'; exact hlt
theorem SlIn.and {S S' : Nat → Prop} {s : Sl} (h : SlIn S s) (h' : SlIn S' s) : SlIn (fun k => S k ∧ S' k) s := fun hn a e => ⟨h hn a e, h' hn a e⟩
theorem ThS.and {S S' : Nat → Prop} {W : World} {t : Th} {p : Tl} (h : ThS S W t p) (h' : ThS S' W t p) : ThS (fun k => S k ∧ S' k) W t p := ⟨h.at_, h.b1.and h'.b1, h.b2.and h'.b2, h.b3.and h'.b3, h.b4.and h'.b4⟩
/-- Whatever reads so lies below the heap's end. -/
theorem ThAt.s {w : World} {t : Th} {p : Tl} (h : ThAt w t p) : ThS (fun k => k < w.heap.size) w t p := ⟨h, SlIn.cats h.c1, SlIn.cats h.c2, SlIn.cats h.lk, SlIn.bytes h.dt⟩
theorem ThIn.s {w : World} {B : Nat} {t : Th} {p : Tl} (h : ThIn w B t p) (hB : B ≤ w.heap.size) : ThS (fun k => k < B) w t p := ⟨h.at_ hB, SlIn.cats h.c1, SlIn.cats h.c2, SlIn.cats h.lk, SlIn.bytes h.dt⟩
/-- A copy lies in the blocks that the call has made. -/
theorem CatsF.sl {B : Nat} {cs : List (Int × Int)} {W : World} {s : Sl} (h : CatsF B cs W s) : SlIn (fun k => B ≤ k ∧ k < W.heap.size) s := SlIn.and (fun _ a e => h.2 a e) (SlIn.cats h.1)
theorem BytesF.sl {B : Nat} {cs : List Int} {W : World} {s : Sl} (h : BytesF B cs W s) : SlIn (fun k => B ≤ k ∧ k < W.heap.size) s := SlIn.and (fun _ a e => h.2 a e) (SlIn.bytes h.1)
theorem ThS.fresh {t : Th} {p : Tl} {B : Nat} {W : World} {a b c d : Sl} (ha : CatsF B p.l1 W a) (hb : CatsF B p.l2 W b) (hc : CatsF B p.links W c) (hd : BytesF B p.data W d) : ThS (fun k => B ≤ k ∧ k < W.heap.size) W (t.slices a b c d) p :=
  ⟨⟨ha.1, hb.1, hc.1, hd.1⟩, ha.sl, hb.sl, hc.sl, hd.sl⟩

/-! ### What operations of a drawn region leave -/
def parts (w0 lo hi : Nat) : Nat → Prop := fun k => k < w0 ∨ (lo ≤ k ∧ k < hi)
def PartT (w0 : Nat) (t : Th) (p : Tl) (lo hi : Nat) (W : World) (v : Value) : Prop := ∃ a b c d, v = .agg (thC (t.slices a b c d)) ∧ ThS (parts w0 lo hi) W (t.slices a b c d) p
def PartN (w0 : Nat) (t : Th) (p : Tl) (n : Int) (lo hi : Nat) (W : World) (v : Value) : Prop := ∃ a b c d, v = .tuple #[.agg (thC (t.slices a b c d)), .int .i64 n] ∧ ThS (parts w0 lo hi) W (t.slices a b c d) p
def PutA (W : World) (x y : Value) : Prop := ∃ u g, x = ptr g ∧ y = .agg (thC u) ∧ Blk W g 61 (thC u)
section
variable {w W : World} {t : Th} {p : Tl} {n : Int} {Good : Nat → Nat → Prop} {vs : Nat → Value}
theorem parts_keep {w : World} {lo hi : Nat} {k : Nat} (h : parts w.heap.size lo hi k) : ¬ (w.heap.size ≤ k ∧ (k < lo ∨ hi ≤ k)) := by
  unfold parts at h; omega
theorem PartT.steady : (Lz.part (PartT w.heap.size t p)).steady w := fun _ _ _ _ _ _ hb ⟨a, b, c, d, e, h⟩ => ⟨a, b, c, d, e, h.keep hb fun _ hk => parts_keep hk⟩
theorem PartN.steady : (Lz.part (PartN w.heap.size t p n)).steady w := fun _ _ _ _ _ _ hb ⟨a, b, c, d, e, h⟩ => ⟨a, b, c, d, e, h.keep hb fun _ hk => parts_keep hk⟩
theorem PutA.steady {j k : Nat} : (Lz.fill j k PutA).steady w := fun W W' x y b hb hl hbut ⟨u, g, e1, e2, hk⟩ => by
  subst e1
  rw [ptr_block] at hb
  obtain rfl : g = b := Option.some.inj hb
  exact ⟨u, g, rfl, e2, hbut.blk hk (fun h => h.2 rfl)⟩
theorem z_callPT {f : FuncId} {args : Array Value} (h : Calls Try.prog f args W fun e w' => ∃ v, e = .returned v ∧ PartT w.heap.size t p W.heap.size w'.heap.size w' v ∧ Below W.heap.size W w') : zUpon Try.prog (.part (PartT w.heap.size t p)) vs Good W (.ok (.enter f args) W) :=
  h.mono fun _ w' ⟨v, he, hv, hb⟩ => ⟨_, he, (But.refl nil_ W).below hb, W.heap.size, w'.heap.size, .inr ⟨rfl, rfl⟩, hv⟩
theorem z_callPN {f : FuncId} {args : Array Value} (h : Calls Try.prog f args W fun e w' => ∃ v, e = .returned v ∧ PartN w.heap.size t p n W.heap.size w'.heap.size w' v ∧ Below W.heap.size W w') : zUpon Try.prog (.part (PartN w.heap.size t p n)) vs Good W (.ok (.enter f args) W) :=
  h.mono fun _ w' ⟨v, he, hv, hb⟩ => ⟨_, he, (But.refl nil_ W).below hb, W.heap.size, w'.heap.size, .inr ⟨rfl, rfl⟩, hv⟩
theorem z_movPN {v : Value} (h : depOk (.part (PartN w.heap.size t p n)) Good w W v) : zUpon Try.prog (.part (PartN w.heap.size t p n)) vs Good W (.ok (.value v) W) := by
  obtain ⟨lo, hi, hg, hr⟩ := h
  exact ⟨But.refl _ _, lo, hi, .inl hg, hr⟩
theorem z_thPN {o : Oper} {a : Act} {x : Operand} {v : Value} (ho : o.op = .extract x 0) (hx : a.eval x = v) (h : depOk (.part (PartN w.heap.size t p n)) Good w W v) : zUpon Try.prog (.part (PartT w.heap.size t p)) vs Good W ((execOp a.eval o).run Try.prog W) := by
  obtain ⟨lo, hi, hg, a', b, c, d, e, hu⟩ := h
  subst e
  unfold execOp
  simp only [ho, hx]
  exact ⟨But.refl _ _, lo, hi, .inl hg, a', b, c, d, rfl, hu⟩
theorem z_numPN {o : Oper} {a : Act} {x : Operand} {v : Value} (ho : o.op = .extract x 1) (hx : a.eval x = v) (h : depOk (.part (PartN w.heap.size t p n)) Good w W v) : zUpon Try.prog (.val (.int .i64 n)) vs Good W ((execOp a.eval o).run Try.prog W) := by
  obtain ⟨lo, hi, hg, a', b, c, d, e, hu⟩ := h
  subst e
  unfold execOp
  simp only [ho, hx]
  exact ⟨But.refl _ _, rfl⟩
theorem z_putA {o : Oper} {a : Act} {x y : Operand} {g : Nat} {u : Th} {v v' : Value} (ho : o.op = .store 61 x y) (hx : a.eval x = v') (hg : v' = ptr g) (hy : a.eval y = v) (hv : v = .agg (thC u)) (hk : Blk W g 61 (thC zeroTh)) :
    ∃ W', (execOp a.eval o).run Try.prog W = .ok .skip W' ∧ But (fun m => m = g) W W' ∧ PutA W' v' v := by
  obtain ⟨W', h1, h2, h3⟩ := store_run61 (u := u) ho (hx.trans hg) (hy.trans hv) hk
  exact ⟨W', h1, h2, u, g, hg, hv, h3⟩
theorem PartT.th {lo hi : Nat} {v : Value} (h : depOk (.part (PartT w.heap.size t p)) Good w W v) : ∃ u, v = .agg (thC u) := by
  obtain ⟨_, _, _, a, b, c, d, e, _⟩ := h
  exact ⟨_, e⟩
end
/-- A copy, as a drawn region wants it told. -/
theorem RetTh.part {w W : World} {f : FuncId} {args : Array Value} {t : Th} {p : Tl} (h : Calls Try.prog f args W fun e w' => RetTh t p W e w') : Calls Try.prog f args W fun e w' => ∃ v, e = .returned v ∧ PartT w.heap.size t p W.heap.size w'.heap.size w' v ∧ Below W.heap.size W w' :=
  h.mono fun _ w' ⟨a, b, c, d, e, ha, hb, hc, hd, hbl⟩ => ⟨_, e, ⟨a, b, c, d, rfl, (ThS.fresh ha hb hc hd).mono fun k hk => .inr hk⟩, hbl⟩
/-- A thing and a number come back: the thing's slices lie where those did that came in, or are the call's own. -/
def RetS (S : Nat → Prop) (t : Th) (p : Tl) (n : Int) (w : World) (e : Ending) (w' : World) : Prop := ∃ a b c d : Sl, e = .returned (.tuple #[.agg (thC (t.slices a b c d)), .int .i64 n]) ∧ ThS (fun k => S k ∨ (w.heap.size ≤ k ∧ k < w'.heap.size)) w' (t.slices a b c d) p ∧ Below w.heap.size w w'
theorem RetS.part {w W : World} {f : FuncId} {args : Array Value} {t : Th} {p : Tl} {n : Int} {S : Nat → Prop} (hS : ∀ k, S k → k < w.heap.size) (h : Calls Try.prog f args W fun e w' => RetS S t p n W e w') : Calls Try.prog f args W fun e w' => ∃ v, e = .returned v ∧ PartN w.heap.size t p n W.heap.size w'.heap.size w' v ∧ Below W.heap.size W w' :=
  h.mono fun _ w' ⟨a, b, c, d, e, ht, hbl⟩ => ⟨_, e, ⟨a, b, c, d, rfl, ht.mono fun k hk => hk.imp (hS k) id⟩, hbl⟩
theorem RetS.plain {w : World} {e : Ending} {w' : World} {t : Th} {p : Tl} {n : Int} {S : Nat → Prop} (h : RetS S t p n w e w') : RetThN t p n w e w' := by
  obtain ⟨a, b, c, d, he, ht, hb⟩ := h
  exact ⟨a, b, c, d, he, ht.at_, hb⟩

/-! ### gate.Who and the first thread -/
set_option maxHeartbeats 4000000 in
set_option maxRecDepth 100000 in
theorem who82 (w : World) (t : Th) : Calls Try.prog 82 #[.agg (thC t)] w fun e w' => e = .returned (.agg #[.int .i64 t.d1, .slice t.l1.a t.l1.n t.l1.c, .int .i64 t.d2, .slice t.l2.a t.l2.n t.l2.c]) ∧ Below w.heap.size w w' := by
  have HB : Hid (∀ a b c d : Value, Below w.heap.size w ((w.alloc (.cells (thC t) 61)).alloc (.cells #[a, b, c, d] 43))) := fun a b c d => ((Below.refl _ w).alloc (Nat.le_refl _) _).alloc (by simp) _
  have HP : Hid (∀ a b c d : Value, Blk ((w.alloc (.cells (thC t) 61)).alloc (.cells #[a, b, c, d] 43)) w.heap.size 61 (thC t)) := fun a b c d => (Blk.new w 61 _).alloc _
  obtain ⟨⟨f1, f2⟩, ⟨f3, f4⟩, _⟩ := Blk.cells26 (HP.out (.int .i64 0) (.slice none 0 0) (.int .i64 0) (.slice none 0 0))
  go_enter Try.func82, Try.ntmps82
  go_wp2_with fail
  refine bodyPost_ret (v := .agg #[.int .i64 t.d1, .slice t.l1.a t.l1.n t.l1.c, .int .i64 t.d2, .slice t.l2.a t.l2.n t.l2.c]) (by simp [results, Try.results82, go_sem]) rfl ⟨rfl, HB.out _ _ _ _⟩

def threadT : Th := { zeroTh with id := 66, kind := 2, d1 := 2, d2 := 2, quota := 1 }
set_option maxHeartbeats 4000000 in
set_option maxRecDepth 100000 in
theorem thread120 (w : World) : Calls Try.prog 120 #[] w fun e w' => e = .returned (.agg (thC threadT)) ∧ Below w.heap.size w w' := by
  have HP : Hid (Blk ((w.alloc (.cells (thC zeroTh) 61)).alloc (.cells #[.int .i64 2, .slice none 0 0] 26)) w.heap.size 61 (thC zeroTh)) := (Blk.new w 61 _).alloc _
  have HB : Hid (Below w.heap.size w ((w.alloc (.cells (thC zeroTh) 61)).alloc (.cells #[.int .i64 2, .slice none 0 0] 26))) := ((Below.refl _ w).alloc (Nat.le_refl _) _).alloc (by simp) _
  go_enter Try.func120, Try.ntmps120
  go_wp2_with (first | (refine wpList_alloc61 ?_) | (refine wpList_store61 threadT zeroTh w.heap.size rfl rfl HP.out ?_; intro W1 hb1 hk1))
  refine bodyPost_ret (th_run hk1 rfl _ rfl) rfl ⟨rfl, hb1.done HB.out (fun k e => by omega) (by simp; omega)⟩
end Go.Proofs.Ytndohmimcbmhdaa

/- gate.Through and the document's. -/
set_option linter.unusedVariables false
set_option linter.unusedSimpArgs false
namespace Go.Proofs.Ytndohmimcbmhdaa
open Go.RowKit Go.Sort

theorem size43 : (Try.prog.info? 43).map (·.size) = some 4 := by kernel_rfl
theorem agg43 : ∀ u : World, (isAgg 43).run Try.prog u = .ok true u := agg_of_struct Try.underlying43
/-- A thread that has gone through a gate. -/
def thruT (t g : Th) (d e : Int) : Th := { t with d1 := d, d2 := e, r0 := g.value }
def thruL (p : Tl) (l r : List (Int × Int)) : Tl := { p with l1 := l, l2 := r }
def thruB (t : Th) (p : Tl) (g : Th) (q : Tl) (d : Int) (l : List (Int × Int)) (e : Int) (r : List (Int × Int)) : Bool := entersB t.d1 p.l1 t.d2 p.l2 g.d1 q.l1 g.d2 q.l2 d l e r
/-- Labels as small as may be entered with. -/
structure Slim (t : Th) : Prop where
  z1 : t.l1.n ≤ 67108864
  z2 : t.l2.n ≤ 67108864
theorem slices_slices (t : Th) (a b c d a' b' c' d' : Sl) : (t.slices a b c d).slices a' b' c' d' = t.slices a' b' c' d' := rfl

end Go.Proofs.Ytndohmimcbmhdaa
