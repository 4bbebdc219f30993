/- thing.Same, whole. -/
import Derived.Test.YtndohmimcbmhdaaMz20
set_option linter.unusedVariables false
set_option linter.unusedSimpArgs false
namespace Go.Proofs.Ytndohmimcbmhdaa
open Go.RowKit Go.Sort

theorem Blk.front' {D : Nat → Prop} {wa W : World} {g : Nat} {t : Th} (h : Blk wa g 61 (thC t)) (hW : But D wa W) (hn : ¬ D g) : Blk W g 61 (thC t) := hW.blk h hn
theorem sameT_chain (t : Th) (p : Tl) (u : Th) (q : Tl) : sameT t p u q = ((((numsB t u && exactB t.d1 p.l1 u.d1 q.l1) && exactB t.d2 p.l2 u.d2 q.l2) && eqB p.links q.links) && bytesB p.data q.data) := by
  unfold sameT bytesB
  simp only [Bool.and_assoc]

set_option maxHeartbeats 8000000 in
set_option maxRecDepth 100000 in
theorem same90 (w : World) (t u : Th) (p q : Tl) (h : ThAt w t p) (h' : ThAt w u q) :
    Calls Try.prog 90 #[.agg (thC t), .agg (thC u)] w fun e w' => e = .returned (.bool (sameT t p u q)) ∧ Below w.heap.size w w' := by
  have mixed : Try.prog.follows .mixedOrders = true := by kernel_rfl
  obtain ⟨q0, q1, q2⟩ := two_blk w (thC t) (thC u) 61 61
  have HB := hid q0
  have HP1 := hid q1
  have HP2 := hid q2
  have H := hid (ThAt.below h q0)
  have H' := hid (ThAt.below h' q0)
  obtain ⟨m, hm⟩ : ∃ m, m = numsB t u := ⟨_, rfl⟩
  obtain ⟨e1, he1⟩ : ∃ m, m = exactB t.d1 p.l1 u.d1 q.l1 := ⟨_, rfl⟩
  obtain ⟨e2, he2⟩ : ∃ m, m = exactB t.d2 p.l2 u.d2 q.l2 := ⟨_, rfl⟩
  obtain ⟨e3, he3⟩ : ∃ m, m = eqB p.links q.links := ⟨_, rfl⟩
  obtain ⟨e4, he4⟩ : ∃ m, m = bytesB p.data q.data := ⟨_, rfl⟩
  obtain ⟨c1, hc1⟩ : ∃ c, c = (m && e1) := ⟨_, rfl⟩
  obtain ⟨c2, hc2⟩ : ∃ c, c = (c1 && e2) := ⟨_, rfl⟩
  obtain ⟨c3, hc3⟩ : ∃ c, c = (c2 && e3) := ⟨_, rfl⟩
  obtain ⟨c4, hc4⟩ : ∃ c, c = (c3 && e4) := ⟨_, rfl⟩
  have HE : Hid (sameT t p u q = c4) := by show _ = _; rw [sameT_chain, hc4, hc3, hc2, hc1, hm, he1, he2, he3, he4]
  have HM := hid hm
  have HC1 := hid hc1
  have HC2 := hid hc2
  have HC3 := hid hc3
  have HC4 := hid hc4
  clear hm hc1 hc2 hc3 hc4 h h' q0 q1 q2
  go_enter Try.func90, Try.ntmps90
  go_wp2_with fail
  generalize (w.alloc (.cells (thC t) 61)).alloc (.cells (thC u) 61) = wa at *
  have HX1 := hid (fun W (hW : But nil_ wa W) => label143 W t.d1 u.d1 _ _ _ _ _ _ _ _ (H.out.since_ hW).c1 (H'.out.since_ hW).c1)
  have HX2 := hid (fun W (hW : But nil_ wa W) => label143 W t.d2 u.d2 _ _ _ _ _ _ _ _ (H.out.since_ hW).c2 (H'.out.since_ hW).c2)
  have HX3 := hid (fun W (hW : But nil_ wa W) => equal144 W _ _ _ _ _ _ _ _ (H.out.since_ hW).lk (H'.out.since_ hW).lk)
  have HX4 := hid (fun W (hW : But nil_ wa W) => equal145 W _ _ _ _ _ _ _ _ (H.out.since_ hW).dt (H'.out.since_ hW).dt)
  rw [← he1] at HX1
  rw [← he2] at HX2
  rw [← he3] at HX3
  rw [← he4] at HX4
  clear he1 he2 he3 he4
  have HF : Hid (∀ W, But nil_ wa W → _) := fun W hW => And.intro (Blk.front (hW.blk HP1.out (fun h => h))) (Blk.front (hW.blk HP2.out (fun h => h)))
  refine wp_region_told 34 nil_ mixed (by kernel_rfl) ?_
  simp only [List.take_succ_cons, List.take_zero, List.drop_succ_cons, List.drop_zero]
  refine told_val (v := .agg (thC t)) (hw := fun _ => rfl) (hr := fun vs W hW => loose_load61 rfl rfl (hW.blk HP1.out (fun h => h))) ?_
  simp only [Act.put, List.setIfInBounds_toArray, List.set_cons_zero, List.set_cons_succ, List.nil_append, List.cons_append, Nat.reduceAdd, Leaves.at]
  refine told_val (v := .agg (plC t)) (fun _ => rfl) (fun vs W hW => ?_) ?_
  · go_simp
    exact loose_call (plain142 W t)
  simp only [Act.put, List.setIfInBounds_toArray, List.set_cons_zero, List.set_cons_succ, List.nil_append, List.cons_append, Nat.reduceAdd, Leaves.at]
  refine told_val (v := .agg (thC u)) (hw := fun _ => rfl) (hr := fun vs W hW => loose_load61 rfl rfl (hW.blk HP2.out (fun h => h))) ?_
  simp only [Act.put, List.setIfInBounds_toArray, List.set_cons_zero, List.set_cons_succ, List.nil_append, List.cons_append, Nat.reduceAdd, Leaves.at]
  refine told_val (v := .agg (plC u)) (fun _ => rfl) (fun vs W hW => ?_) ?_
  · go_simp
    exact loose_call (plain142 W u)
  simp only [Act.put, List.setIfInBounds_toArray, List.set_cons_zero, List.set_cons_succ, List.nil_append, List.cons_append, Nat.reduceAdd, Leaves.at]
  refine told_val (v := .bool m) (hw := fun _ => rfl) (hr := fun vs W hW => by rw [HM.out]; exact loose_eq147 rfl rfl rfl) ?_
  simp only [Act.put, List.setIfInBounds_toArray, List.set_cons_zero, List.set_cons_succ, List.nil_append, List.cons_append, Nat.reduceAdd, Leaves.at]
  repeat (refine told_val (v := ?_) (fun _ => rfl) (fun vs W hW => ?_) ?_; rotate_left; (focus (have hf := HF.out W hW; clear hW; go_simp; exact loose_val)); simp only [Act.put, List.setIfInBounds_toArray, List.set_cons_zero, List.set_cons_succ, List.nil_append, List.cons_append, Nat.reduceAdd, Leaves.at])
  repeat (refine told_maybe (b := m) (v := ?_) (fun _ => Bool.casesOn m rfl rfl) (fun hb vs W hW => ?_) ?_; rotate_left; (focus (have hf := HF.out W hW; clear hW; (try simp only [hb, cond_true, cond_false]); go_simp; exact loose_val)); simp only [Act.put, List.setIfInBounds_toArray, List.set_cons_zero, List.set_cons_succ, List.nil_append, List.cons_append, Nat.reduceAdd, Leaves.at])
  refine told_maybe (b := m) (v := .bool e1) (fun _ => Bool.casesOn m rfl rfl) (fun hb vs W hW => ?_) ?_
  · try simp only [hb, cond_true, cond_false]
    go_simp
    exact loose_call (HX1.out W hW)
  simp only [Act.put, List.setIfInBounds_toArray, List.set_cons_zero, List.set_cons_succ, List.nil_append, List.cons_append, Nat.reduceAdd, Leaves.at]
  refine told_val (v := .bool c1) (hw := fun _ => rfl) (hr := fun vs W hW => by rw [HC1.out]; cases m <;> cases e1 <;> (go_simp; exact loose_val)) ?_
  simp only [Act.put, List.setIfInBounds_toArray, List.set_cons_zero, List.set_cons_succ, List.nil_append, List.cons_append, Nat.reduceAdd, Leaves.at]
  repeat (refine told_val (v := ?_) (fun _ => rfl) (fun vs W hW => ?_) ?_; rotate_left; (focus (have hf := HF.out W hW; clear hW; go_simp; exact loose_val)); simp only [Act.put, List.setIfInBounds_toArray, List.set_cons_zero, List.set_cons_succ, List.nil_append, List.cons_append, Nat.reduceAdd, Leaves.at])
  repeat (refine told_maybe (b := c1) (v := ?_) (fun _ => Bool.casesOn c1 rfl rfl) (fun hb vs W hW => ?_) ?_; rotate_left; (focus (have hf := HF.out W hW; clear hW; (try simp only [hb, cond_true, cond_false]); go_simp; exact loose_val)); simp only [Act.put, List.setIfInBounds_toArray, List.set_cons_zero, List.set_cons_succ, List.nil_append, List.cons_append, Nat.reduceAdd, Leaves.at])
  refine told_maybe (b := c1) (v := .bool e2) (fun _ => Bool.casesOn c1 rfl rfl) (fun hb vs W hW => ?_) ?_
  · try simp only [hb, cond_true, cond_false]
    go_simp
    exact loose_call (HX2.out W hW)
  simp only [Act.put, List.setIfInBounds_toArray, List.set_cons_zero, List.set_cons_succ, List.nil_append, List.cons_append, Nat.reduceAdd, Leaves.at]
  refine told_val (v := .bool c2) (hw := fun _ => rfl) (hr := fun vs W hW => by rw [HC2.out]; cases c1 <;> cases e2 <;> (go_simp; exact loose_val)) ?_
  simp only [Act.put, List.setIfInBounds_toArray, List.set_cons_zero, List.set_cons_succ, List.nil_append, List.cons_append, Nat.reduceAdd, Leaves.at]
  repeat (refine told_val (v := ?_) (fun _ => rfl) (fun vs W hW => ?_) ?_; rotate_left; (focus (have hf := HF.out W hW; clear hW; go_simp; exact loose_val)); simp only [Act.put, List.setIfInBounds_toArray, List.set_cons_zero, List.set_cons_succ, List.nil_append, List.cons_append, Nat.reduceAdd, Leaves.at])
  repeat (refine told_maybe (b := c2) (v := ?_) (fun _ => Bool.casesOn c2 rfl rfl) (fun hb vs W hW => ?_) ?_; rotate_left; (focus (have hf := HF.out W hW; clear hW; (try simp only [hb, cond_true, cond_false]); go_simp; exact loose_val)); simp only [Act.put, List.setIfInBounds_toArray, List.set_cons_zero, List.set_cons_succ, List.nil_append, List.cons_append, Nat.reduceAdd, Leaves.at])
  refine told_maybe (b := c2) (v := .bool e3) (fun _ => Bool.casesOn c2 rfl rfl) (fun hb vs W hW => ?_) ?_
  · try simp only [hb, cond_true, cond_false]
    go_simp
    exact loose_call (HX3.out W hW)
  simp only [Act.put, List.setIfInBounds_toArray, List.set_cons_zero, List.set_cons_succ, List.nil_append, List.cons_append, Nat.reduceAdd, Leaves.at]
  refine told_val (v := .bool c3) (hw := fun _ => rfl) (hr := fun vs W hW => by rw [HC3.out]; cases c2 <;> cases e3 <;> (go_simp; exact loose_val)) ?_
  simp only [Act.put, List.setIfInBounds_toArray, List.set_cons_zero, List.set_cons_succ, List.nil_append, List.cons_append, Nat.reduceAdd, Leaves.at]
  repeat (refine told_val (v := ?_) (fun _ => rfl) (fun vs W hW => ?_) ?_; rotate_left; (focus (have hf := HF.out W hW; clear hW; go_simp; exact loose_val)); simp only [Act.put, List.setIfInBounds_toArray, List.set_cons_zero, List.set_cons_succ, List.nil_append, List.cons_append, Nat.reduceAdd, Leaves.at])
  repeat (refine told_maybe (b := c3) (v := ?_) (fun _ => Bool.casesOn c3 rfl rfl) (fun hb vs W hW => ?_) ?_; rotate_left; (focus (have hf := HF.out W hW; clear hW; (try simp only [hb, cond_true, cond_false]); go_simp; exact loose_val)); simp only [Act.put, List.setIfInBounds_toArray, List.set_cons_zero, List.set_cons_succ, List.nil_append, List.cons_append, Nat.reduceAdd, Leaves.at])
  refine told_maybe (b := c3) (v := .bool e4) (fun _ => Bool.casesOn c3 rfl rfl) (fun hb vs W hW => ?_) ?_
  · try simp only [hb, cond_true, cond_false]
    go_simp
    exact loose_call (HX4.out W hW)
  simp only [Act.put, List.setIfInBounds_toArray, List.set_cons_zero, List.set_cons_succ, List.nil_append, List.cons_append, Nat.reduceAdd, Leaves.at]
  refine told_val (v := .bool c4) (hw := fun _ => rfl) (hr := fun vs W hW => by rw [HC4.out]; cases c3 <;> cases e4 <;> (go_simp; exact loose_val)) ?_
  simp only [Act.put, List.setIfInBounds_toArray, List.set_cons_zero, List.set_cons_succ, List.nil_append, List.cons_append, Nat.reduceAdd, Leaves.at]
  repeat (refine told_val (v := ?_) (fun _ => rfl) (fun vs W hW => ?_) ?_; rotate_left; (focus (have hf := HF.out W hW; clear hW; go_simp; exact loose_val)); simp only [Act.put, List.setIfInBounds_toArray, List.set_cons_zero, List.set_cons_succ, List.nil_append, List.cons_append, Nat.reduceAdd, Leaves.at])
  refine told_nil ?_
  intro vs W hW hok hap
  clear hap
  dsimp only
  have HB2 := hid (HB.out.trans (since_below hW HB.out.size))
  clear hok hW
  go_wp2_with fail
  go_ret
  exact ⟨by rw [HE.out]; rfl, HB2.out⟩
end Go.Proofs.Ytndohmimcbmhdaa

/- thing.only. -/
set_option linter.unusedVariables false
set_option linter.unusedSimpArgs false
namespace Go.Proofs.Ytndohmimcbmhdaa
open Go.RowKit Go.Sort

def bare0 (t : Th) : Th := { zeroTh with id := t.id, kind := t.kind, d1 := t.d1, l1 := t.l1, quota := t.quota }
def bare1 (t : Th) : Th := { bare0 t with next := t.next, links := t.links }
def bare2 (t : Th) : Th := { bare0 t with r0 := t.r0, r1 := t.r1, r2 := t.r2, r3 := t.r3, minted := t.minted, boot := t.boot, halt := t.halt, d2 := t.d2, l2 := t.l2 }
def bare3 (t : Th) : Th := { bare0 t with d2 := t.d2, l2 := t.l2, value := t.value }
def bare4 (t : Th) : Th := { bare0 t with data := t.data }
def bare5 (t : Th) : Th := { bare0 t with s0 := t.s0, s1 := t.s1, s2 := t.s2, s3 := t.s3, s4 := t.s4, s5 := t.s5, s6 := t.s6, s7 := t.s7 }
def bl0 (p : Tl) : Tl := ⟨p.l1, [], [], []⟩
def bl1 (p : Tl) : Tl := ⟨p.l1, [], p.links, []⟩
def bl2 (p : Tl) : Tl := ⟨p.l1, p.l2, [], []⟩
def bl4 (p : Tl) : Tl := ⟨p.l1, [], [], p.data⟩
theorem ThAt.b0 {w : World} {t : Th} {p : Tl} (h : ThAt w t p) : ThAt w (bare0 t) (bl0 p) := ⟨h.c1, CatsAt.nil_, CatsAt.nil_, BytesAt.nil_⟩
theorem ThAt.b1 {w : World} {t : Th} {p : Tl} (h : ThAt w t p) : ThAt w (bare1 t) (bl1 p) := ⟨h.c1, CatsAt.nil_, h.lk, BytesAt.nil_⟩
theorem ThAt.b2 {w : World} {t : Th} {p : Tl} (h : ThAt w t p) : ThAt w (bare2 t) (bl2 p) := ⟨h.c1, h.c2, CatsAt.nil_, BytesAt.nil_⟩
theorem ThAt.b3 {w : World} {t : Th} {p : Tl} (h : ThAt w t p) : ThAt w (bare3 t) (bl2 p) := ⟨h.c1, h.c2, CatsAt.nil_, BytesAt.nil_⟩
theorem ThAt.b4 {w : World} {t : Th} {p : Tl} (h : ThAt w t p) : ThAt w (bare4 t) (bl4 p) := ⟨h.c1, CatsAt.nil_, CatsAt.nil_, h.dt⟩
theorem ThAt.b5 {w : World} {t : Th} {p : Tl} (h : ThAt w t p) : ThAt w (bare5 t) (bl0 p) := ⟨h.c1, CatsAt.nil_, CatsAt.nil_, BytesAt.nil_⟩
theorem one_of {vs : List Value} (h : vs.all (·.oneCell') = true) : ∀ u ∈ vs, u.oneCell' = true := fun u hu => List.all_eq_true.1 h u hu
theorem ThIn.at_ {w : World} {B : Nat} {t : Th} {p : Tl} (h : ThIn w B t p) (hB : B ≤ w.heap.size) : ThAt w t p := ⟨h.c1.more hB, h.c2.more hB, h.lk.more hB, h.dt.more hB⟩
theorem ThIn.below {w w' : World} {B : Nat} {t : Th} {p : Tl} (h : ThIn w B t p) (hb : Below B w w') : ThIn w' B t p := ⟨h.c1.below hb, h.c2.below hb, h.lk.below hb, h.dt.below hb⟩
theorem at_ne {a b : Nat} (h : a < b) : ¬ at_ b a := fun e => by have : a = b := e; omega
theorem at_ge {a b : Nat} (h : a < b) : ∀ k, at_ b k → a ≤ k := fun k e => by have : k = b := e; omega

end Go.Proofs.Ytndohmimcbmhdaa

/- What Right asks of a name, a label, a number, a slot. -/
set_option linter.unusedVariables false
set_option linter.unusedSimpArgs false
namespace Go.Proofs.Ytndohmimcbmhdaa
open Go.RowKit Go.Sort

theorem star162 (x : Int × Int) (W : World) : Calls Try.prog 162 #[.agg #[.int .u64 x.1, .int .i64 x.2]] W fun e w' => e = .returned (.bool (starC x)) ∧ Below W.heap.size W w' := by
  obtain ⟨i, v⟩ := x
  show Calls Try.prog 162 #[.agg #[.int .u64 i, .int .i64 v]] W _
  have HB := hid ((Below.refl W.heap.size W).alloc (Nat.le_refl _) (.cells #[.int .u64 i, .int .i64 v] 32))
  have HO : Hid (starC (i, v) = (v == 0)) := rfl
  go_enter Try.func162, Try.ntmps162
  go_wp2_with fail
  go_ret
  exact ⟨by rw [HO.out]; rfl, HB.out⟩
theorem eg162 : ∀ args w, (callFunc 162 args).run Try.prog w = .ok (.enter 162 args) w := fun args w => by
  first | kernel_rfl | (simp [callFunc]; done)
theorem star162_ok (W : World) : TestOk 162 #[] starC W := fun W' hW' x => (star162 x W').mono fun e w' ⟨he, hb⟩ => ⟨he, hW'.trans (hb.mono hW'.size)⟩


set_option maxHeartbeats 2000000 in
set_option maxRecDepth 100000 in
theorem pure138 (w : World) (d : Int) (A : Option Addr) (n c : Nat) (cs : List (Int × Int)) (h : CatsAt w w.heap.size A n c cs) :
    Calls Try.prog 138 #[.agg #[.int .i64 d, .slice A n c]] w fun e w' => e = .returned (.bool (pureB d cs)) ∧ Below w.heap.size w w' := by
  have HB : Hid (Below w.heap.size w (w.alloc (.cells #[.int .i64 d, .slice A n c] 26))) := (Below.refl _ w).alloc (Nat.le_refl _) _
  have HP1 : Hid (Blk (w.alloc (.cells #[.int .i64 d, .slice A n c] 26)) w.heap.size 26 #[.int .i64 d, .slice A n c]) := Blk.new w 26 _
  have HC := hid ((h.below HB.out).more HB.out.size)
  have HE : Hid (pureB d cs = (rightB d cs && !(cs.any starC))) := rfl
  clear h
  go_enter Try.func138, Try.ntmps138
  go_wp2_with (refine wp_list_told 9 9 nil_ rfl (by decide) ?_)
  generalize w.alloc (.cells #[.int .i64 d, .slice A n c] 26) = wa at *
  have HF : Hid (∀ W, But nil_ wa W → W.cell? ⟨w.heap.size, 0, none⟩ = some (.int .i64 d) ∧ W.cell? ⟨w.heap.size, 1, none⟩ = some (.slice A n c)) := fun W hW => (hW.blk HP1.out (fun h => h)).cells2
  have HR := hid (fun W (hW : But nil_ wa W) => right51 W d A n c cs (HC.out.since_ hW))
  have HS := hid (fun W (hW : But nil_ wa W) => containsFunc102 W A n c cs 162 #[] starC (HC.out.since_ hW) (star162_ok W) eg162)
  generalize rightB d cs = q at *
  generalize cs.any starC = p at *
  try simp only [List.take_succ_cons, List.take_zero, List.drop_succ_cons, List.drop_zero]
  repeat (refine told_val (v := ?_) (fun _ => rfl) (fun vs W hW => ?_) ?_; rotate_left; (focus (have hf := HF.out W hW; clear hW; go_simp; exact loose_val)); simp only [Act.put, List.setIfInBounds_toArray, List.set_cons_zero, List.set_cons_succ, List.nil_append, List.cons_append, Nat.reduceAdd, Leaves.at])
  refine told_val (v := .bool q) (fun _ => rfl) (fun vs W hW => ?_) ?_
  · go_simp
    exact loose_call (HR.out W hW)
  simp only [Act.put, List.setIfInBounds_toArray, List.set_cons_zero, List.set_cons_succ, List.nil_append, List.cons_append, Nat.reduceAdd, Leaves.at]
  repeat (refine told_val (v := ?_) (fun _ => rfl) (fun vs W hW => ?_) ?_; rotate_left; (focus (have hf := HF.out W hW; clear hW; go_simp; exact loose_val)); simp only [Act.put, List.setIfInBounds_toArray, List.set_cons_zero, List.set_cons_succ, List.nil_append, List.cons_append, Nat.reduceAdd, Leaves.at])
  repeat (refine told_maybe (b := q) (v := ?_) (fun _ => Bool.casesOn q rfl rfl) (fun hb vs W hW => ?_) ?_; rotate_left; (focus (have hf := HF.out W hW; clear hW; (try simp only [hb, cond_true, cond_false]); go_simp; exact loose_val)); simp only [Act.put, List.setIfInBounds_toArray, List.set_cons_zero, List.set_cons_succ, List.nil_append, List.cons_append, Nat.reduceAdd, Leaves.at])
  refine told_maybe (b := q) (v := .bool p) (fun _ => Bool.casesOn q rfl rfl) (fun hb vs W hW => ?_) ?_
  · try simp only [hb, cond_true, cond_false]
    go_simp
    exact loose_call (HS.out W hW)
  simp only [Act.put, List.setIfInBounds_toArray, List.set_cons_zero, List.set_cons_succ, List.nil_append, List.cons_append, Nat.reduceAdd, Leaves.at]
  repeat (refine told_maybe (b := q) (v := ?_) (fun _ => Bool.casesOn q rfl rfl) (fun hb vs W hW => ?_) ?_; rotate_left; (focus (have hf := HF.out W hW; clear hW; (try simp only [hb, cond_true, cond_false]); go_simp; exact loose_val)); simp only [Act.put, List.setIfInBounds_toArray, List.set_cons_zero, List.set_cons_succ, List.nil_append, List.cons_append, Nat.reduceAdd, Leaves.at])
  refine told_val (v := .bool (q && !p)) (fun _ => rfl) (fun vs W hW => ?_) ?_
  · cases q <;> cases p <;> (go_simp; exact loose_val)
  simp only [Act.put, List.setIfInBounds_toArray, List.set_cons_zero, List.set_cons_succ, List.nil_append, List.cons_append, Nat.reduceAdd, Leaves.at]
  repeat (refine told_val (v := ?_) (fun _ => rfl) (fun vs W hW => ?_) ?_; rotate_left; (focus (have hf := HF.out W hW; clear hW; go_simp; exact loose_val)); simp only [Act.put, List.setIfInBounds_toArray, List.set_cons_zero, List.set_cons_succ, List.nil_append, List.cons_append, Nat.reduceAdd, Leaves.at])
  refine told_nil ?_
  intro vs W hW hok hap
  clear hap
  dsimp only
  have HB2 := hid (HB.out.trans (since_below hW HB.out.size))
  clear hok hW
  go_wp2_with fail
  go_ret
  exact ⟨by rw [HE.out]; rfl, HB2.out⟩



theorem named136 (w : World) (x : Int) : Calls Try.prog 136 #[.int .u64 x] w fun e w' => e = .returned (.bool (namedB x)) ∧ w = w' := by
  by_cases h1 : 1 ≤ x
  · have h0 : 0 < x := by omega
    by_cases h2 : x ≤ 281474976710655
    · have h3 : x < 281474976710656 := by omega
      have HE : Hid (namedB x = true) := decide_eq_true ⟨h1, h2⟩
      go_enter Try.func136, Try.ntmps136
      go_wp2_with fail
      go_ret
      exact ⟨by rw [HE.out]; rfl, rfl⟩
    · have h3 : ¬ x < 281474976710656 := by omega
      have h4 : 281474976710655 < x := by omega
      have h5 : 281474976710656 ≤ x := by omega
      have HE : Hid (namedB x = false) := decide_eq_false fun h => h2 h.2
      go_enter Try.func136, Try.ntmps136
      go_wp2_with fail
      go_ret
      exact ⟨by rw [HE.out]; rfl, rfl⟩
  · have h0 : ¬ 0 < x := by omega
    have h3 : x < 1 := by omega
    have h4 : x ≤ 0 := by omega
    have HE : Hid (namedB x = false) := decide_eq_false fun h => h1 h.1
    go_enter Try.func136, Try.ntmps136
    go_wp2_with fail
    go_ret
    exact ⟨by rw [HE.out]; rfl, rfl⟩


theorem named116 (w : World) (x : Int) : Calls Try.prog 116 #[.int .u64 x] w fun e w' => e = .returned (.bool (namedB x)) ∧ w = w' := by
  by_cases h1 : 1 ≤ x
  · have h0 : 0 < x := by omega
    by_cases h2 : x ≤ 281474976710655
    · have h3 : x < 281474976710656 := by omega
      have HE : Hid (namedB x = true) := decide_eq_true ⟨h1, h2⟩
      go_enter Try.func116, Try.ntmps116
      go_wp2_with fail
      go_ret
      exact ⟨by rw [HE.out]; rfl, rfl⟩
    · have h3 : ¬ x < 281474976710656 := by omega
      have h4 : 281474976710655 < x := by omega
      have h5 : 281474976710656 ≤ x := by omega
      have HE : Hid (namedB x = false) := decide_eq_false fun h => h2 h.2
      go_enter Try.func116, Try.ntmps116
      go_wp2_with fail
      go_ret
      exact ⟨by rw [HE.out]; rfl, rfl⟩
  · have h0 : ¬ 0 < x := by omega
    have h3 : x < 1 := by omega
    have h4 : x ≤ 0 := by omega
    have HE : Hid (namedB x = false) := decide_eq_false fun h => h1 h.1
    go_enter Try.func116, Try.ntmps116
    go_wp2_with fail
    go_ret
    exact ⟨by rw [HE.out]; rfl, rfl⟩


theorem named119 (w : World) (x : Int) : Calls Try.prog 119 #[.int .u64 x] w fun e w' => e = .returned (.bool (namedB x)) ∧ w = w' := by
  by_cases h1 : 1 ≤ x
  · have h0 : 0 < x := by omega
    by_cases h2 : x ≤ 281474976710655
    · have h3 : x < 281474976710656 := by omega
      have HE : Hid (namedB x = true) := decide_eq_true ⟨h1, h2⟩
      go_enter Try.func119, Try.ntmps119
      go_wp2_with fail
      go_ret
      exact ⟨by rw [HE.out]; rfl, rfl⟩
    · have h3 : ¬ x < 281474976710656 := by omega
      have h4 : 281474976710655 < x := by omega
      have h5 : 281474976710656 ≤ x := by omega
      have HE : Hid (namedB x = false) := decide_eq_false fun h => h2 h.2
      go_enter Try.func119, Try.ntmps119
      go_wp2_with fail
      go_ret
      exact ⟨by rw [HE.out]; rfl, rfl⟩
  · have h0 : ¬ 0 < x := by omega
    have h3 : x < 1 := by omega
    have h4 : x ≤ 0 := by omega
    have HE : Hid (namedB x = false) := decide_eq_false fun h => h1 h.1
    go_enter Try.func119, Try.ntmps119
    go_wp2_with fail
    go_ret
    exact ⟨by rw [HE.out]; rfl, rfl⟩

theorem frombits (a : Int) (w : World) : (callFunc 177 #[.int .u64 a]).run Try.prog w = .ok (.value (.float .f64 a.toNat)) w := by
  rw [run_callFunc_extern Try.func177 (by kernel_rfl) rfl (by kernel_rfl) (e := Extern.MathFloatBits.float64frombits) (by kernel_rfl)]
  rfl

set_option maxHeartbeats 400000 in
theorem canon164 (a : Int) (w : World) (h0 : 0 ≤ a) : Calls Try.prog 164 #[.int .u64 a] w fun e w' => e = .returned (.int .u64 (canon a)) ∧ w = w' := by
  have hf := frombits
  cases h : nanB a
  · have hn := neq_self_num a h0 h
    rw [canon_num h]
    clear h
    go_enter Try.func164, Try.ntmps164
    go_wp2
    go_ret
    exact ⟨rfl, rfl⟩
  · have hn := neq_self_nan a h0 h
    rw [canon_nan h]
    clear h
    go_enter Try.func164, Try.ntmps164
    go_wp2
    go_ret
    exact ⟨rfl, rfl⟩

theorem wrap_u64_in {n : Int} (h0 : 0 ≤ n) (h : n < 18446744073709551616) : IntKind.u64.wrap n = n := by rw [IntKind.wrap_u64]; omega

set_option maxHeartbeats 400000 in
theorem parts154 (a : Int) (w : World) (h0 : 0 ≤ a) (hA : a < 18446744073709551616) : Calls Try.prog 154 #[.int .u64 a] w fun e w' => e = .returned (.tuple #[.int .u64 (a / 9223372036854775808), .int .u64 (a / 4503599627370496 % 2048), .int .u64 (a % 4503599627370496)]) ∧ w = w' := by
  have e1 : bits .and .u64 (a / 4503599627370496) 2047 = a / 4503599627370496 % 2048 := by
    rw [u64_and _ _ (by omega) (by omega) (by omega) (by omega)]
    show ((_ &&& 2047 : Nat) : Int) = _
    rw [nat_mask11]; omega
  have e2 : bits .and .u64 a 4503599627370495 = a % 4503599627370496 := by
    rw [u64_and _ _ (by omega) (by omega) (by omega) (by omega)]
    have : a.toNat &&& (2 ^ 52 - 1) = a.toNat % 2 ^ 52 := Nat.and_two_pow_sub_one_eq_mod _ 52
    show ((a.toNat &&& (2 ^ 52 - 1) : Nat) : Int) = _
    rw [this]; omega
  clear h0 hA
  go_enter Try.func154, Try.ntmps154
  go_wp2
  go_ret3
  exact ⟨rfl, rfl⟩

theorem parts_nan (a : Int) (_h0 : 0 ≤ a) (_hA : a < 18446744073709551616) : nanB a = ((a / 4503599627370496 % 2048 == 2047) && (a % 4503599627370496 != 0)) := by
  unfold nanB
  rw [Bool.eq_iff_iff]
  simp only [decide_eq_true_eq, Bool.and_eq_true, beq_iff_eq, bne_iff_ne, ne_eq]
  omega

set_option maxHeartbeats 400000 in
theorem canon117 (a : Int) (w : World) (h0 : 0 ≤ a) (hA : a < 18446744073709551616) : Calls Try.prog 117 #[.int .u64 a] w fun e w' => e = .returned (.int .u64 (canon a)) ∧ w = w' := by
  have hn := parts_nan a h0 hA
  by_cases hx : (a / 4503599627370496 % 2048 == 2047) = true
  · by_cases hy : (a % 4503599627370496 != 0) = true
    · rw [hx, hy] at hn
      have Hc := hid (canon_nan hn)
      clear hn
      go_enter Try.func117, Try.ntmps117
      go_wp2_with (go_at_call 154; refine (parts154 _ _ h0 hA).mono ?_; rintro e w' ⟨rfl, rfl⟩)
      go_ret
      exact ⟨by rw [Hc.out]; rfl, rfl⟩
    · have hy' : (a % 4503599627370496 != 0) = false := by simpa using hy
      rw [hx, hy'] at hn
      have Hc := hid (canon_num hn)
      clear hn hy
      go_enter Try.func117, Try.ntmps117
      go_wp2_with (go_at_call 154; refine (parts154 _ _ h0 hA).mono ?_; rintro e w' ⟨rfl, rfl⟩)
      go_ret
      exact ⟨by rw [Hc.out]; rfl, rfl⟩
  · have hx' : (a / 4503599627370496 % 2048 == 2047) = false := by simpa using hx
    rw [hx'] at hn
    have Hc := hid (canon_num (by simpa using hn))
    clear hn hx
    go_enter Try.func117, Try.ntmps117
    go_wp2_with (go_at_call 154; refine (parts154 _ _ h0 hA).mono ?_; rintro e w' ⟨rfl, rfl⟩)
    go_ret
    exact ⟨by rw [Hc.out]; rfl, rfl⟩



def notCanon (x : Int) : Bool := canon x != x
theorem test163 (x : Int) (w : World) (h0 : 0 ≤ x) : Calls Try.prog 163 #[.int .u64 x] w fun e w' => e = .returned (.bool (notCanon x)) ∧ w = w' := by
  have HE : Hid (notCanon x = (canon x != x)) := rfl
  have HC := hid (fun W => canon164 x W h0)
  generalize canon x = c at *
  go_enter Try.func163, Try.ntmps163
  go_wp2_with (go_at_call 164; refine (HC.out _).mono ?_; rintro e w' ⟨rfl, rfl⟩)
  go_ret
  exact ⟨by rw [HE.out]; rfl, rfl⟩
theorem eg163 : ∀ args w, (callFunc 163 args).run Try.prog w = .ok (.enter 163 args) w := fun args w => by
  first | kernel_rfl | (simp [callFunc]; done)
theorem eg167 : ∀ args w, (callFunc 167 args).run Try.prog w = .ok (.enter 167 args) w := fun args w => by
  first | kernel_rfl | (simp [callFunc]; done)
theorem loose_neq52 {o : Oper} {a : Act} {W : World} {x y : Operand} {ty : TypeId} {p q r s : Int} (ho : o.op = .binOp .neq 52 x y ty) (hx : a.eval x = .agg #[.int .u64 p, .int .u64 q]) (hy : a.eval y = .agg #[.int .u64 r, .int .u64 s]) : looseUpon Try.prog nil_ (.val (.bool (!(p == r && q == s)))) W ((execOp a.eval o).run Try.prog W) := by
  unfold execOp
  simp only [ho, hx, hy, Sem.run_bind, run_eqGuard_agg W .neq 52 x y _ _ guard52, Result.andThen_ok, run_neq_struct, eq52 9998, Sem.run_pure]
  exact loose_val
theorem loose_eql52 {o : Oper} {a : Act} {W : World} {x y : Operand} {ty : TypeId} {p q r s : Int} (ho : o.op = .binOp .eql 52 x y ty) (hx : a.eval x = .agg #[.int .u64 p, .int .u64 q]) (hy : a.eval y = .agg #[.int .u64 r, .int .u64 s]) : looseUpon Try.prog nil_ (.val (.bool (p == r && q == s))) W ((execOp a.eval o).run Try.prog W) := by
  unfold execOp
  simp only [ho, hx, hy, Sem.run_bind, run_eqGuard_agg W .eql 52 x y _ _ guard52, Result.andThen_ok, run_eql_struct, eq52 9998, Sem.run_pure]
  exact loose_val
def oddSlot (x : Int × Int) : Bool := !(slotOk x.1 x.2)
set_option maxHeartbeats 2000000 in
set_option maxRecDepth 100000 in
theorem test167 (x : Int × Int) (w : World) : Calls Try.prog 167 #[.agg #[.int .u64 x.1, .int .u64 x.2]] w fun e w' => e = .returned (.bool (oddSlot x)) ∧ Below w.heap.size w w' := by
  obtain ⟨a, b⟩ := x
  show Calls Try.prog 167 #[.agg #[.int .u64 a, .int .u64 b]] w _
  have HB : Hid (Below w.heap.size w (w.alloc (.cells #[.int .u64 a, .int .u64 b] 52))) := (Below.refl _ w).alloc (Nat.le_refl _) _
  have HP : Hid (Blk (w.alloc (.cells #[.int .u64 a, .int .u64 b] 52)) w.heap.size 52 #[.int .u64 a, .int .u64 b]) := Blk.new w 52 _
  obtain ⟨z, hz⟩ : ∃ z, z = !(a == 0 && b == 0) := ⟨_, rfl⟩
  obtain ⟨n1, hn1⟩ : ∃ z, z = namedB a := ⟨_, rfl⟩
  obtain ⟨n2, hn2⟩ : ∃ z, z = namedB b := ⟨_, rfl⟩
  have HE : Hid (oddSlot (a, b) = (z && (!n1 || !n2))) := by
    show _ = _
    unfold oddSlot slotOk
    rw [hz, hn1, hn2]
    have e : decide (a = 0 ∧ b = 0) = (a == 0 && b == 0) := by rw [Bool.eq_iff_iff]; simp
    simp only [e, Bool.not_or, Bool.not_and]
  have HZ := hid hz
  have HN1 : Hid (∀ W, Calls Try.prog 136 #[.int .u64 a] W fun e w' => e = .returned (.bool n1) ∧ W = w') := fun W => by rw [hn1]; exact named136 W a
  have HN2 : Hid (∀ W, Calls Try.prog 136 #[.int .u64 b] W fun e w' => e = .returned (.bool n2) ∧ W = w') := fun W => by rw [hn2]; exact named136 W b
  clear hz hn1 hn2
  go_enter Try.func167, Try.ntmps167
  go_wp2_with (refine wp_list_told 16 16 nil_ rfl (by decide) ?_)
  generalize w.alloc (.cells #[.int .u64 a, .int .u64 b] 52) = wa at *
  have HF : Hid (∀ W, But nil_ wa W → (W.cell? ⟨w.heap.size, 0, none⟩ = some (.int .u64 a) ∧ W.cell? ⟨w.heap.size, 1, none⟩ = some (.int .u64 b))) := fun W hW => (hW.blk HP.out (fun h => h)).cells2
  try simp only [List.take_succ_cons, List.take_zero, List.drop_succ_cons, List.drop_zero]
  refine told_val (v := (.agg #[.int .u64 a, .int .u64 b])) (hw := fun _ => rfl) (hr := fun vs W hW => loose_load (cur := [.int .u64 a, .int .u64 b]) (vs := [.int .u64 a, .int .u64 b]) rfl rfl (hW.blk HP.out (fun h => h)) (agg_of_struct Try.underlying52) size52 rfl) ?_
  simp only [Act.put, List.setIfInBounds_toArray, List.set_cons_zero, List.set_cons_succ, List.nil_append, List.cons_append, Nat.reduceAdd, Leaves.at]
  refine told_val (v := (.agg #[.int .u64 0, .int .u64 0])) (hw := fun _ => rfl) (hr := fun vs W hW => by clear hW; go_simp; exact loose_val) ?_
  simp only [Act.put, List.setIfInBounds_toArray, List.set_cons_zero, List.set_cons_succ, List.nil_append, List.cons_append, Nat.reduceAdd, Leaves.at]
  refine told_val (v := .bool z) (hw := fun _ => rfl) (hr := fun vs W hW => by rw [HZ.out]; exact loose_neq52 rfl rfl rfl) ?_
  simp only [Act.put, List.setIfInBounds_toArray, List.set_cons_zero, List.set_cons_succ, List.nil_append, List.cons_append, Nat.reduceAdd, Leaves.at]
  repeat (refine told_val (v := ?_) (fun _ => rfl) (fun vs W hW => ?_) ?_; rotate_left; (focus (have hf := HF.out W hW; clear hW; go_simp; exact loose_val)); simp only [Act.put, List.setIfInBounds_toArray, List.set_cons_zero, List.set_cons_succ, List.nil_append, List.cons_append, Nat.reduceAdd, Leaves.at])
  repeat (refine told_maybe (b := z) (v := ?_) (fun _ => Bool.casesOn z rfl rfl) (fun hb vs W hW => ?_) ?_; rotate_left; (focus (have hf := HF.out W hW; clear hW; (try simp only [hb, cond_true, cond_false]); go_simp; exact loose_val)); simp only [Act.put, List.setIfInBounds_toArray, List.set_cons_zero, List.set_cons_succ, List.nil_append, List.cons_append, Nat.reduceAdd, Leaves.at])
  refine told_maybe (b := z) (v := .bool n1) (fun _ => Bool.casesOn z rfl rfl) (fun hb vs W hW => ?_) ?_
  · try simp only [hb, cond_true, cond_false]
    go_simp
    exact loose_call ((HN1.out W).mono fun e w' h => ⟨h.1, h.2 ▸ Below.refl _ _⟩)
  simp only [Act.put, List.setIfInBounds_toArray, List.set_cons_zero, List.set_cons_succ, List.nil_append, List.cons_append, Nat.reduceAdd, Leaves.at]
  repeat (refine told_maybe (b := z) (v := ?_) (fun _ => Bool.casesOn z rfl rfl) (fun hb vs W hW => ?_) ?_; rotate_left; (focus (have hf := HF.out W hW; clear hW; (try simp only [hb, cond_true, cond_false]); go_simp; exact loose_val)); simp only [Act.put, List.setIfInBounds_toArray, List.set_cons_zero, List.set_cons_succ, List.nil_append, List.cons_append, Nat.reduceAdd, Leaves.at])
  refine told_maybe (b := (z && n1)) (v := .pointer (some ⟨w.heap.size, 1, none⟩)) (fun _ => by cases z <;> cases n1 <;> rfl) (fun hb vs W hW => ?_) ?_
  · have hf := HF.out W hW; clear hW; revert hb; cases z <;> cases n1 <;> intro hb <;> first | exact Bool.noConfusion hb | (go_simp; exact loose_val)
  simp only [Act.put, List.setIfInBounds_toArray, List.set_cons_zero, List.set_cons_succ, List.nil_append, List.cons_append, Nat.reduceAdd, Leaves.at]
  refine told_maybe (b := (z && n1)) (v := .int .u64 b) (fun _ => by cases z <;> cases n1 <;> rfl) (fun hb vs W hW => ?_) ?_
  · have hf := HF.out W hW; clear hW; revert hb; cases z <;> cases n1 <;> intro hb <;> first | exact Bool.noConfusion hb | (go_simp; exact loose_val)
  simp only [Act.put, List.setIfInBounds_toArray, List.set_cons_zero, List.set_cons_succ, List.nil_append, List.cons_append, Nat.reduceAdd, Leaves.at]
  refine told_maybe (b := (z && n1)) (v := .bool n2) (fun _ => by cases z <;> cases n1 <;> rfl) (fun hb vs W hW => ?_) ?_
  · revert hb; cases z <;> cases n1 <;> intro hb <;> first | exact Bool.noConfusion hb | (go_simp; exact loose_call ((HN2.out W).mono fun e w' h => ⟨h.1, h.2 ▸ Below.refl _ _⟩))
  simp only [Act.put, List.setIfInBounds_toArray, List.set_cons_zero, List.set_cons_succ, List.nil_append, List.cons_append, Nat.reduceAdd, Leaves.at]
  refine told_maybe (b := (z && n1)) (v := .bool (!n2)) (fun _ => by cases z <;> cases n1 <;> rfl) (fun hb vs W hW => ?_) ?_
  · have hf := HF.out W hW; clear hW; revert hb; cases z <;> cases n1 <;> intro hb <;> first | exact Bool.noConfusion hb | (go_simp; exact loose_val)
  simp only [Act.put, List.setIfInBounds_toArray, List.set_cons_zero, List.set_cons_succ, List.nil_append, List.cons_append, Nat.reduceAdd, Leaves.at]
  refine told_maybe (b := z) (v := .bool (!n1 || !n2)) (fun _ => by cases z <;> cases n1 <;> cases n2 <;> rfl) (fun hb vs W hW => ?_) ?_
  · have hf := HF.out W hW; clear hW; revert hb; cases z <;> cases n1 <;> cases n2 <;> intro hb <;> first | exact Bool.noConfusion hb | (go_simp; exact loose_val)
  simp only [Act.put, List.setIfInBounds_toArray, List.set_cons_zero, List.set_cons_succ, List.nil_append, List.cons_append, Nat.reduceAdd, Leaves.at]
  refine told_val (v := .bool (z && (!n1 || !n2))) (hw := fun _ => rfl) (hr := fun vs W hW => by clear hW; cases z <;> cases n1 <;> cases n2 <;> (go_simp; exact loose_val)) ?_
  simp only [Act.put, List.setIfInBounds_toArray, List.set_cons_zero, List.set_cons_succ, List.nil_append, List.cons_append, Nat.reduceAdd, Leaves.at]
  repeat (refine told_val (v := ?_) (fun _ => rfl) (fun vs W hW => ?_) ?_; rotate_left; (focus (have hf := HF.out W hW; clear hW; go_simp; exact loose_val)); simp only [Act.put, List.setIfInBounds_toArray, List.set_cons_zero, List.set_cons_succ, List.nil_append, List.cons_append, Nat.reduceAdd, Leaves.at])
  refine told_nil ?_
  intro vs W hW hok hap
  clear hap
  dsimp only
  have HB2 := hid (HB.out.trans (since_below hW HB.out.size))
  clear hok hW
  go_wp2_with fail
  go_ret
  exact ⟨by rw [HE.out]; rfl, HB2.out⟩
end Go.Proofs.Ytndohmimcbmhdaa
