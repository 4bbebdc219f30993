/- The document's Same of two things. -/
import Derived.Test.YtndohmimcbmhdaaMz23
import Derived.Test.YtndohmimcbmhdaaMz11
set_option linter.unusedVariables false
set_option linter.unusedSimpArgs false
namespace Go.Proofs.Ytndohmimcbmhdaa
open Go.RowKit Go.Sort

set_option maxHeartbeats 2000000 in
set_option maxRecDepth 100000 in
theorem clean118 (w : World) (d : Int) (A : Option Addr) (n c : Nat) (cs : List (Int × Int)) (h : CatsAt w w.heap.size A n c cs) :
    Calls Try.prog 118 #[.agg #[.int .i64 d, .slice A n c]] w fun e w' => e = .returned (.bool (pureB d cs)) ∧ Below w.heap.size w w' := by
  have HB : Hid (Below w.heap.size w (w.alloc (.cells #[.int .i64 d, .slice A n c] 26))) := (Below.refl _ w).alloc (Nat.le_refl _) _
  have HP : Hid (Blk (w.alloc (.cells #[.int .i64 d, .slice A n c] 26)) w.heap.size 26 #[.int .i64 d, .slice A n c]) := Blk.new w 26 _
  have HC := hid ((h.below HB.out).more HB.out.size)
  have HE : Hid (pureB d cs = (rightB d cs && pureD d cs)) := (pure_both d cs).symm
  clear h
  go_enter Try.func118, Try.ntmps118
  go_wp2_with (refine wp_list_told 7 7 nil_ rfl (by decide) ?_)
  generalize w.alloc (.cells #[.int .i64 d, .slice A n c] 26) = wa at *
  have HF : Hid (∀ W, But nil_ wa W → W.cell? ⟨w.heap.size, 0, none⟩ = some (.int .i64 d) ∧ W.cell? ⟨w.heap.size, 1, none⟩ = some (.slice A n c)) := fun W hW => (hW.blk HP.out (fun h => h)).cells2
  have HR := hid (fun W (hW : But nil_ wa W) => right52 W d A n c cs (HC.out.since_ hW))
  have HS := hid (fun W (hW : But nil_ wa W) => pure114 W d A n c cs (HC.out.since_ hW))
  generalize rightB d cs = q at *
  generalize pureD d cs = p at *
  try simp only [List.take_succ_cons, List.take_zero, List.drop_succ_cons, List.drop_zero]
  refine told_val (v := .agg #[.int .i64 d, .slice A n c]) (hw := fun _ => rfl) (hr := fun vs W hW => loose_load (cur := [.int .i64 d, .slice A n c]) (vs := [.int .i64 d, .slice A n c]) rfl rfl (hW.blk HP.out (fun h => h)) (agg_of_struct Try.underlying26) size26 rfl) ?_
  simp only [Act.put, List.setIfInBounds_toArray, List.set_cons_zero, List.set_cons_succ, List.nil_append, List.cons_append, Nat.reduceAdd, Leaves.at]
  refine told_val (v := .bool q) (fun _ => rfl) (fun vs W hW => ?_) ?_
  · go_simp
    exact loose_call (HR.out W hW)
  simp only [Act.put, List.setIfInBounds_toArray, List.set_cons_zero, List.set_cons_succ, List.nil_append, List.cons_append, Nat.reduceAdd, Leaves.at]
  repeat (refine told_val (v := ?_) (fun _ => rfl) (fun vs W hW => ?_) ?_; rotate_left; (focus (have hf := HF.out W hW; clear hW; go_simp; exact loose_val)); simp only [Act.put, List.setIfInBounds_toArray, List.set_cons_zero, List.set_cons_succ, List.nil_append, List.cons_append, Nat.reduceAdd, Leaves.at])
  refine told_maybe (b := q) (v := .agg #[.int .i64 d, .slice A n c]) (fun _ => Bool.casesOn q rfl rfl) (fun hb vs W hW => loose_load (cur := [.int .i64 d, .slice A n c]) (vs := [.int .i64 d, .slice A n c]) rfl rfl (hW.blk HP.out (fun h => h)) (agg_of_struct Try.underlying26) size26 rfl) ?_
  simp only [Act.put, List.setIfInBounds_toArray, List.set_cons_zero, List.set_cons_succ, List.nil_append, List.cons_append, Nat.reduceAdd, Leaves.at]
  refine told_maybe (b := q) (v := .bool p) (fun _ => Bool.casesOn q rfl rfl) (fun hb vs W hW => ?_) ?_
  · try simp only [hb, cond_true, cond_false]
    go_simp
    exact loose_call (HS.out W hW)
  simp only [Act.put, List.setIfInBounds_toArray, List.set_cons_zero, List.set_cons_succ, List.nil_append, List.cons_append, Nat.reduceAdd, Leaves.at]
  refine told_val (v := .bool (q && p)) (fun _ => rfl) (fun vs W hW => ?_) ?_
  · cases q <;> cases p <;> (go_simp; exact loose_val)
  simp only [Act.put, List.setIfInBounds_toArray, List.set_cons_zero, List.set_cons_succ, List.nil_append, List.cons_append, Nat.reduceAdd, Leaves.at]
  repeat (refine told_val (v := ?_) (fun _ => rfl) (fun vs W hW => ?_) ?_; rotate_left; (focus (have hf := HF.out W hW; clear hW; go_simp; exact loose_val)); simp only [Act.put, List.setIfInBounds_toArray, List.set_cons_zero, List.set_cons_succ, List.nil_append, List.cons_append, Nat.reduceAdd, Leaves.at])
  refine told_nil ?_
  intro vs W hW hok hap
  clear hap
  dsimp only
  have HB2 := hid (HB.out.trans (since_below hW HB.out.size))
  clear hok hW
  go_wp2_with fail
  go_ret
  exact ⟨by rw [HE.out]; rfl, HB2.out⟩
def numsC (t u : Th) : Bool := (((((((((!(t.id == u.id) || !(t.kind == u.kind)) || !(t.quota == u.quota)) || !(t.next == u.next)) || !(regsB t u)) || !(t.minted == u.minted)) || !(t.boot == u.boot)) || !(t.halt == u.halt)) || !(t.value == u.value)) || !(slotsB t u))
theorem numsC_eq (t u : Th) : numsC t u = !(numsB t u) := by
  unfold numsC numsB regsB slotsB
  cases t.id == u.id <;> try rfl
  cases t.kind == u.kind <;> try rfl
  cases t.quota == u.quota <;> try rfl
  cases t.next == u.next <;> try rfl
  generalize (t.r0 == u.r0 && (t.r1 == u.r1 && (t.r2 == u.r2 && t.r3 == u.r3))) = q
  generalize ((t.s0 == u.s0 && t.s1 == u.s1) && ((t.s2 == u.s2 && t.s3 == u.s3) && ((t.s4 == u.s4 && t.s5 == u.s5) && (t.s6 == u.s6 && t.s7 == u.s7)))) = s
  cases t.minted == u.minted <;> cases t.boot == u.boot <;> cases t.halt == u.halt <;> cases t.value == u.value <;> cases q <;> cases s <;> rfl

set_option maxHeartbeats 16000000 in
set_option maxRecDepth 100000 in
theorem same75 (w : World) (t u : Th) (p q : Tl) (h : ThAt w t p) (h' : ThAt w u q) :
    Calls Try.prog 75 #[.agg (thC t), .agg (thC u)] w fun e w' => e = .returned (.bool (sameT t p u q)) ∧ Below w.heap.size w w' := by
  have mixed : Try.prog.follows .mixedOrders = true := by kernel_rfl
  obtain ⟨q0, q1, q2⟩ := two_blk w (thC t) (thC u) 61 61
  have HB := hid q0
  have HP1 := hid q1
  have HP2 := hid q2
  have H := hid (ThAt.below h q0)
  have H' := hid (ThAt.below h' q0)
  have HFt := hid h.dt.fit
  have HFu := hid h'.dt.fit
  obtain ⟨x0, hx0⟩ : ∃ z, z = (!(t.id == u.id)) := ⟨_, rfl⟩
  obtain ⟨x1, hx1⟩ : ∃ z, z = (!(t.kind == u.kind)) := ⟨_, rfl⟩
  obtain ⟨x2, hx2⟩ : ∃ z, z = (!(t.quota == u.quota)) := ⟨_, rfl⟩
  obtain ⟨x3, hx3⟩ : ∃ z, z = (!(t.next == u.next)) := ⟨_, rfl⟩
  obtain ⟨x4, hx4⟩ : ∃ z, z = (!(regsB t u)) := ⟨_, rfl⟩
  obtain ⟨x5, hx5⟩ : ∃ z, z = (!(t.minted == u.minted)) := ⟨_, rfl⟩
  obtain ⟨x6, hx6⟩ : ∃ z, z = (!(t.boot == u.boot)) := ⟨_, rfl⟩
  obtain ⟨x7, hx7⟩ : ∃ z, z = (!(t.halt == u.halt)) := ⟨_, rfl⟩
  obtain ⟨x8, hx8⟩ : ∃ z, z = (!(t.value == u.value)) := ⟨_, rfl⟩
  obtain ⟨x9, hx9⟩ : ∃ z, z = (!(slotsB t u)) := ⟨_, rfl⟩
  obtain ⟨y1, hy1⟩ : ∃ z, z = (x0 || x1) := ⟨_, rfl⟩
  obtain ⟨y2, hy2⟩ : ∃ z, z = (y1 || x2) := ⟨_, rfl⟩
  obtain ⟨y3, hy3⟩ : ∃ z, z = (y2 || x3) := ⟨_, rfl⟩
  obtain ⟨y4, hy4⟩ : ∃ z, z = (y3 || x4) := ⟨_, rfl⟩
  obtain ⟨y5, hy5⟩ : ∃ z, z = (y4 || x5) := ⟨_, rfl⟩
  obtain ⟨y6, hy6⟩ : ∃ z, z = (y5 || x6) := ⟨_, rfl⟩
  obtain ⟨y7, hy7⟩ : ∃ z, z = (y6 || x7) := ⟨_, rfl⟩
  obtain ⟨y8, hy8⟩ : ∃ z, z = (y7 || x8) := ⟨_, rfl⟩
  obtain ⟨y9, hy9⟩ : ∃ z, z = (y8 || x9) := ⟨_, rfl⟩
  obtain ⟨e1, he1⟩ : ∃ m, m = exactB t.d1 p.l1 u.d1 q.l1 := ⟨_, rfl⟩
  obtain ⟨e2, he2⟩ : ∃ m, m = exactB t.d2 p.l2 u.d2 q.l2 := ⟨_, rfl⟩
  obtain ⟨e4, he4⟩ : ∃ m, m = !(bytesB p.data q.data) := ⟨_, rfl⟩
  obtain ⟨e5, he5⟩ : ∃ m, m = !((t.links.n : Int) == (u.links.n : Int)) := ⟨_, rfl⟩
  obtain ⟨c1, hc1⟩ : ∃ c, c = !e1 := ⟨_, rfl⟩
  obtain ⟨c2, hc2⟩ : ∃ c, c = (c1 || !e2) := ⟨_, rfl⟩
  obtain ⟨c3, hc3⟩ : ∃ c, c = (c2 || e4) := ⟨_, rfl⟩
  obtain ⟨c4, hc4⟩ : ∃ c, c = (c3 || e5) := ⟨_, rfl⟩
  have HE : Hid (sameT t p u q = (!y9 && (!c4 && eqB p.links q.links))) := by
    show _ = _
    have hnm : numsB t u = !y9 := by
      rw [show numsB t u = !(numsC t u) by rw [numsC_eq, Bool.not_not]]
      unfold numsC
      rw [hy9, hy8, hy7, hy6, hy5, hy4, hy3, hy2, hy1, hx0, hx1, hx2, hx3, hx4, hx5, hx6, hx7, hx8, hx9]
    rw [sameT_chain, hnm, hc4, hc3, hc2, hc1, he1, he2, he4, he5]
    have hlk : eqB p.links q.links = (((t.links.n : Int) == (u.links.n : Int)) && eqB p.links q.links) := by
      cases hq : eqB p.links q.links with
      | false => rw [Bool.and_false]
      | true =>
        have : p.links = q.links := of_decide_eq_true hq
        have e : t.links.n = u.links.n := by rw [← h.lk.len, ← h'.lk.len, this]
        rw [e]; simp
    generalize eqB p.links q.links = z at hlk ⊢
    rw [hlk]
    generalize ((t.links.n : Int) == (u.links.n : Int)) = y
    cases y9 <;> cases exactB t.d1 p.l1 u.d1 q.l1 <;> cases exactB t.d2 p.l2 u.d2 q.l2 <;> cases bytesB p.data q.data <;> cases y <;> cases z <;> rfl
  have HX0 := hid hx0
  have HX1 := hid hx1
  have HX2 := hid hx2
  have HX3 := hid hx3
  have HX4 := hid hx4
  have HX5 := hid hx5
  have HX6 := hid hx6
  have HX7 := hid hx7
  have HX8 := hid hx8
  have HX9 := hid hx9
  have HY1 := hid hy1
  have HY2 := hid hy2
  have HY3 := hid hy3
  have HY4 := hid hy4
  have HY5 := hid hy5
  have HY6 := hid hy6
  have HY7 := hid hy7
  have HY8 := hid hy8
  have HY9 := hid hy9
  have HC1 := hid hc1
  have HC2 := hid hc2
  have HC3 := hid hc3
  have HC4 := hid hc4
  have HE4 := hid he4
  have HE5 := hid he5
  clear hx0 hx1 hx2 hx3 hx4 hx5 hx6 hx7 hx8 hx9 hy1 hy2 hy3 hy4 hy5 hy6 hy7 hy8 hy9 hc1 hc2 hc3 hc4 he4 he5 h h' q0 q1 q2
  go_enter Try.func75, Try.ntmps75
  iterate 18 (first | go_values | go_skip | go_guarded | go_step | go_upon | go_back)
  simp only [List.append_eq, List.cons_append, List.nil_append]
  refine wp_list_told 68 68 nil_ rfl (by decide) ?_
  generalize (w.alloc (.cells (thC t) 61)).alloc (.cells (thC u) 61) = wa at *
  have HZ1 := hid (fun W (hW : But nil_ wa W) => exact36 W t.d1 u.d1 _ _ _ _ _ _ _ _ (H.out.since_ hW).c1 (H'.out.since_ hW).c1)
  have HZ2 := hid (fun W (hW : But nil_ wa W) => exact36 W t.d2 u.d2 _ _ _ _ _ _ _ _ (H.out.since_ hW).c2 (H'.out.since_ hW).c2)
  rw [← he1] at HZ1
  rw [← he2] at HZ2
  clear he1 he2
  have HF : Hid (∀ W, But nil_ wa W → True) := fun W hW => trivial
  try simp only [List.take_succ_cons, List.take_zero, List.drop_succ_cons, List.drop_zero]
  refine told_val (v := .pointer (some ⟨w.heap.size, 0, none⟩)) (hw := fun _ => rfl) (hr := fun vs W hW => by clear hW; go_simp; exact loose_val) ?_
  simp only [Act.put, List.setIfInBounds_toArray, List.set_cons_zero, List.set_cons_succ, List.nil_append, List.cons_append, Nat.reduceAdd, Leaves.at]
  refine told_val (v := (.int .u64 t.id)) (hw := fun _ => rfl) (hr := fun vs W hW => loose_ld (cs := thC t) rfl rfl (hW.blk HP1.out (fun h => h)) rfl na24) ?_
  simp only [Act.put, List.setIfInBounds_toArray, List.set_cons_zero, List.set_cons_succ, List.nil_append, List.cons_append, Nat.reduceAdd, Leaves.at]
  refine told_val (v := .pointer (some ⟨w.heap.size + 1, 0, none⟩)) (hw := fun _ => rfl) (hr := fun vs W hW => by clear hW; go_simp; exact loose_val) ?_
  simp only [Act.put, List.setIfInBounds_toArray, List.set_cons_zero, List.set_cons_succ, List.nil_append, List.cons_append, Nat.reduceAdd, Leaves.at]
  refine told_val (v := (.int .u64 u.id)) (hw := fun _ => rfl) (hr := fun vs W hW => loose_ld (cs := thC u) rfl rfl (hW.blk HP2.out (fun h => h)) rfl na24) ?_
  simp only [Act.put, List.setIfInBounds_toArray, List.set_cons_zero, List.set_cons_succ, List.nil_append, List.cons_append, Nat.reduceAdd, Leaves.at]
  refine told_val (v := .bool x0) (hw := fun _ => rfl) (hr := fun vs W hW => by rw [HX0.out]; clear hW; go_simp; exact loose_val) ?_
  simp only [Act.put, List.setIfInBounds_toArray, List.set_cons_zero, List.set_cons_succ, List.nil_append, List.cons_append, Nat.reduceAdd, Leaves.at]
  repeat (refine told_val (v := ?_) (fun _ => rfl) (fun vs W hW => ?_) ?_; rotate_left; (focus (have hf := HF.out W hW; clear hW; go_simp; exact loose_val)); simp only [Act.put, List.setIfInBounds_toArray, List.set_cons_zero, List.set_cons_succ, List.nil_append, List.cons_append, Nat.reduceAdd, Leaves.at])
  refine told_not (b := x0) (v := .pointer (some ⟨w.heap.size, 1, none⟩)) (fun _ => Bool.casesOn x0 rfl rfl) (fun hb vs W hW => by clear hW; subst hb; go_simp; exact loose_val) ?_
  simp only [Act.put, List.setIfInBounds_toArray, List.set_cons_zero, List.set_cons_succ, List.nil_append, List.cons_append, Nat.reduceAdd, Leaves.at]
  refine told_not (b := x0) (v := (.int .i64 t.kind)) (fun _ => Bool.casesOn x0 rfl rfl) (fun hb vs W hW => by subst hb; exact loose_ld (cs := thC t) rfl rfl (hW.blk HP1.out (fun h => h)) rfl na3) ?_
  simp only [Act.put, List.setIfInBounds_toArray, List.set_cons_zero, List.set_cons_succ, List.nil_append, List.cons_append, Nat.reduceAdd, Leaves.at]
  refine told_not (b := x0) (v := .pointer (some ⟨w.heap.size + 1, 1, none⟩)) (fun _ => Bool.casesOn x0 rfl rfl) (fun hb vs W hW => by clear hW; subst hb; go_simp; exact loose_val) ?_
  simp only [Act.put, List.setIfInBounds_toArray, List.set_cons_zero, List.set_cons_succ, List.nil_append, List.cons_append, Nat.reduceAdd, Leaves.at]
  refine told_not (b := x0) (v := (.int .i64 u.kind)) (fun _ => Bool.casesOn x0 rfl rfl) (fun hb vs W hW => by subst hb; exact loose_ld (cs := thC u) rfl rfl (hW.blk HP2.out (fun h => h)) rfl na3) ?_
  simp only [Act.put, List.setIfInBounds_toArray, List.set_cons_zero, List.set_cons_succ, List.nil_append, List.cons_append, Nat.reduceAdd, Leaves.at]
  refine told_not (b := x0) (v := .bool x1) (fun _ => Bool.casesOn x0 rfl rfl) (fun hb vs W hW => by rw [HX1.out]; clear hW; subst hb; go_simp; exact loose_val) ?_
  simp only [Act.put, List.setIfInBounds_toArray, List.set_cons_zero, List.set_cons_succ, List.nil_append, List.cons_append, Nat.reduceAdd, Leaves.at]
  refine told_val (v := .bool y1) (hw := fun _ => rfl) (hr := fun vs W hW => by rw [HY1.out]; clear hW; cases x0 <;> (go_simp; exact loose_val)) ?_
  simp only [Act.put, List.setIfInBounds_toArray, List.set_cons_zero, List.set_cons_succ, List.nil_append, List.cons_append, Nat.reduceAdd, Leaves.at]
  repeat (refine told_val (v := ?_) (fun _ => rfl) (fun vs W hW => ?_) ?_; rotate_left; (focus (have hf := HF.out W hW; clear hW; go_simp; exact loose_val)); simp only [Act.put, List.setIfInBounds_toArray, List.set_cons_zero, List.set_cons_succ, List.nil_append, List.cons_append, Nat.reduceAdd, Leaves.at])
  refine told_not (b := y1) (v := .pointer (some ⟨w.heap.size, 6, none⟩)) (fun _ => Bool.casesOn y1 rfl rfl) (fun hb vs W hW => by clear hW; subst hb; go_simp; exact loose_val) ?_
  simp only [Act.put, List.setIfInBounds_toArray, List.set_cons_zero, List.set_cons_succ, List.nil_append, List.cons_append, Nat.reduceAdd, Leaves.at]
  refine told_not (b := y1) (v := (.int .i64 t.quota)) (fun _ => Bool.casesOn y1 rfl rfl) (fun hb vs W hW => by subst hb; exact loose_ld (cs := thC t) rfl rfl (hW.blk HP1.out (fun h => h)) rfl na3) ?_
  simp only [Act.put, List.setIfInBounds_toArray, List.set_cons_zero, List.set_cons_succ, List.nil_append, List.cons_append, Nat.reduceAdd, Leaves.at]
  refine told_not (b := y1) (v := .pointer (some ⟨w.heap.size + 1, 6, none⟩)) (fun _ => Bool.casesOn y1 rfl rfl) (fun hb vs W hW => by clear hW; subst hb; go_simp; exact loose_val) ?_
  simp only [Act.put, List.setIfInBounds_toArray, List.set_cons_zero, List.set_cons_succ, List.nil_append, List.cons_append, Nat.reduceAdd, Leaves.at]
  refine told_not (b := y1) (v := (.int .i64 u.quota)) (fun _ => Bool.casesOn y1 rfl rfl) (fun hb vs W hW => by subst hb; exact loose_ld (cs := thC u) rfl rfl (hW.blk HP2.out (fun h => h)) rfl na3) ?_
  simp only [Act.put, List.setIfInBounds_toArray, List.set_cons_zero, List.set_cons_succ, List.nil_append, List.cons_append, Nat.reduceAdd, Leaves.at]
  refine told_not (b := y1) (v := .bool x2) (fun _ => Bool.casesOn y1 rfl rfl) (fun hb vs W hW => by rw [HX2.out]; clear hW; subst hb; go_simp; exact loose_val) ?_
  simp only [Act.put, List.setIfInBounds_toArray, List.set_cons_zero, List.set_cons_succ, List.nil_append, List.cons_append, Nat.reduceAdd, Leaves.at]
  refine told_val (v := .bool y2) (hw := fun _ => rfl) (hr := fun vs W hW => by rw [HY2.out]; clear hW; cases y1 <;> (go_simp; exact loose_val)) ?_
  simp only [Act.put, List.setIfInBounds_toArray, List.set_cons_zero, List.set_cons_succ, List.nil_append, List.cons_append, Nat.reduceAdd, Leaves.at]
  repeat (refine told_val (v := ?_) (fun _ => rfl) (fun vs W hW => ?_) ?_; rotate_left; (focus (have hf := HF.out W hW; clear hW; go_simp; exact loose_val)); simp only [Act.put, List.setIfInBounds_toArray, List.set_cons_zero, List.set_cons_succ, List.nil_append, List.cons_append, Nat.reduceAdd, Leaves.at])
  refine told_not (b := y2) (v := .pointer (some ⟨w.heap.size, 7, none⟩)) (fun _ => Bool.casesOn y2 rfl rfl) (fun hb vs W hW => by clear hW; subst hb; go_simp; exact loose_val) ?_
  simp only [Act.put, List.setIfInBounds_toArray, List.set_cons_zero, List.set_cons_succ, List.nil_append, List.cons_append, Nat.reduceAdd, Leaves.at]
  refine told_not (b := y2) (v := (.int .i64 t.next)) (fun _ => Bool.casesOn y2 rfl rfl) (fun hb vs W hW => by subst hb; exact loose_ld (cs := thC t) rfl rfl (hW.blk HP1.out (fun h => h)) rfl na3) ?_
  simp only [Act.put, List.setIfInBounds_toArray, List.set_cons_zero, List.set_cons_succ, List.nil_append, List.cons_append, Nat.reduceAdd, Leaves.at]
  refine told_not (b := y2) (v := .pointer (some ⟨w.heap.size + 1, 7, none⟩)) (fun _ => Bool.casesOn y2 rfl rfl) (fun hb vs W hW => by clear hW; subst hb; go_simp; exact loose_val) ?_
  simp only [Act.put, List.setIfInBounds_toArray, List.set_cons_zero, List.set_cons_succ, List.nil_append, List.cons_append, Nat.reduceAdd, Leaves.at]
  refine told_not (b := y2) (v := (.int .i64 u.next)) (fun _ => Bool.casesOn y2 rfl rfl) (fun hb vs W hW => by subst hb; exact loose_ld (cs := thC u) rfl rfl (hW.blk HP2.out (fun h => h)) rfl na3) ?_
  simp only [Act.put, List.setIfInBounds_toArray, List.set_cons_zero, List.set_cons_succ, List.nil_append, List.cons_append, Nat.reduceAdd, Leaves.at]
  refine told_not (b := y2) (v := .bool x3) (fun _ => Bool.casesOn y2 rfl rfl) (fun hb vs W hW => by rw [HX3.out]; clear hW; subst hb; go_simp; exact loose_val) ?_
  simp only [Act.put, List.setIfInBounds_toArray, List.set_cons_zero, List.set_cons_succ, List.nil_append, List.cons_append, Nat.reduceAdd, Leaves.at]
  refine told_val (v := .bool y3) (hw := fun _ => rfl) (hr := fun vs W hW => by rw [HY3.out]; clear hW; cases y2 <;> (go_simp; exact loose_val)) ?_
  simp only [Act.put, List.setIfInBounds_toArray, List.set_cons_zero, List.set_cons_succ, List.nil_append, List.cons_append, Nat.reduceAdd, Leaves.at]
  repeat (refine told_val (v := ?_) (fun _ => rfl) (fun vs W hW => ?_) ?_; rotate_left; (focus (have hf := HF.out W hW; clear hW; go_simp; exact loose_val)); simp only [Act.put, List.setIfInBounds_toArray, List.set_cons_zero, List.set_cons_succ, List.nil_append, List.cons_append, Nat.reduceAdd, Leaves.at])
  refine told_not (b := y3) (v := .pointer (some ⟨w.heap.size, 10, none⟩)) (fun _ => Bool.casesOn y3 rfl rfl) (fun hb vs W hW => by clear hW; subst hb; go_simp; exact loose_val) ?_
  simp only [Act.put, List.setIfInBounds_toArray, List.set_cons_zero, List.set_cons_succ, List.nil_append, List.cons_append, Nat.reduceAdd, Leaves.at]
  refine told_not (b := y3) (v := (regsV t)) (fun _ => Bool.casesOn y3 rfl rfl) (fun hb vs W hW => by subst hb; exact loose_load (cur := t.cells) (vs := [.int .u64 t.r0, .int .u64 t.r1, .int .u64 t.r2, .int .u64 t.r3]) rfl rfl (hW.blk HP1.out (fun h => h)) agg58 size58 rfl) ?_
  simp only [Act.put, List.setIfInBounds_toArray, List.set_cons_zero, List.set_cons_succ, List.nil_append, List.cons_append, Nat.reduceAdd, Leaves.at]
  refine told_not (b := y3) (v := .pointer (some ⟨w.heap.size + 1, 10, none⟩)) (fun _ => Bool.casesOn y3 rfl rfl) (fun hb vs W hW => by clear hW; subst hb; go_simp; exact loose_val) ?_
  simp only [Act.put, List.setIfInBounds_toArray, List.set_cons_zero, List.set_cons_succ, List.nil_append, List.cons_append, Nat.reduceAdd, Leaves.at]
  refine told_not (b := y3) (v := (regsV u)) (fun _ => Bool.casesOn y3 rfl rfl) (fun hb vs W hW => by subst hb; exact loose_load (cur := u.cells) (vs := [.int .u64 u.r0, .int .u64 u.r1, .int .u64 u.r2, .int .u64 u.r3]) rfl rfl (hW.blk HP2.out (fun h => h)) agg58 size58 rfl) ?_
  simp only [Act.put, List.setIfInBounds_toArray, List.set_cons_zero, List.set_cons_succ, List.nil_append, List.cons_append, Nat.reduceAdd, Leaves.at]
  refine told_not (b := y3) (v := .bool x4) (fun _ => Bool.casesOn y3 rfl rfl) (fun hb vs W hW => by rw [HX4.out]; subst hb; exact loose_neq58 rfl rfl rfl) ?_
  simp only [Act.put, List.setIfInBounds_toArray, List.set_cons_zero, List.set_cons_succ, List.nil_append, List.cons_append, Nat.reduceAdd, Leaves.at]
  refine told_val (v := .bool y4) (hw := fun _ => rfl) (hr := fun vs W hW => by rw [HY4.out]; clear hW; cases y3 <;> (go_simp; exact loose_val)) ?_
  simp only [Act.put, List.setIfInBounds_toArray, List.set_cons_zero, List.set_cons_succ, List.nil_append, List.cons_append, Nat.reduceAdd, Leaves.at]
  repeat (refine told_val (v := ?_) (fun _ => rfl) (fun vs W hW => ?_) ?_; rotate_left; (focus (have hf := HF.out W hW; clear hW; go_simp; exact loose_val)); simp only [Act.put, List.setIfInBounds_toArray, List.set_cons_zero, List.set_cons_succ, List.nil_append, List.cons_append, Nat.reduceAdd, Leaves.at])
  refine told_not (b := y4) (v := .pointer (some ⟨w.heap.size, 14, none⟩)) (fun _ => Bool.casesOn y4 rfl rfl) (fun hb vs W hW => by clear hW; subst hb; go_simp; exact loose_val) ?_
  simp only [Act.put, List.setIfInBounds_toArray, List.set_cons_zero, List.set_cons_succ, List.nil_append, List.cons_append, Nat.reduceAdd, Leaves.at]
  refine told_not (b := y4) (v := (.int .i64 t.minted)) (fun _ => Bool.casesOn y4 rfl rfl) (fun hb vs W hW => by subst hb; exact loose_ld (cs := thC t) rfl rfl (hW.blk HP1.out (fun h => h)) rfl na3) ?_
  simp only [Act.put, List.setIfInBounds_toArray, List.set_cons_zero, List.set_cons_succ, List.nil_append, List.cons_append, Nat.reduceAdd, Leaves.at]
  refine told_not (b := y4) (v := .pointer (some ⟨w.heap.size + 1, 14, none⟩)) (fun _ => Bool.casesOn y4 rfl rfl) (fun hb vs W hW => by clear hW; subst hb; go_simp; exact loose_val) ?_
  simp only [Act.put, List.setIfInBounds_toArray, List.set_cons_zero, List.set_cons_succ, List.nil_append, List.cons_append, Nat.reduceAdd, Leaves.at]
  refine told_not (b := y4) (v := (.int .i64 u.minted)) (fun _ => Bool.casesOn y4 rfl rfl) (fun hb vs W hW => by subst hb; exact loose_ld (cs := thC u) rfl rfl (hW.blk HP2.out (fun h => h)) rfl na3) ?_
  simp only [Act.put, List.setIfInBounds_toArray, List.set_cons_zero, List.set_cons_succ, List.nil_append, List.cons_append, Nat.reduceAdd, Leaves.at]
  refine told_not (b := y4) (v := .bool x5) (fun _ => Bool.casesOn y4 rfl rfl) (fun hb vs W hW => by rw [HX5.out]; clear hW; subst hb; go_simp; exact loose_val) ?_
  simp only [Act.put, List.setIfInBounds_toArray, List.set_cons_zero, List.set_cons_succ, List.nil_append, List.cons_append, Nat.reduceAdd, Leaves.at]
  refine told_val (v := .bool y5) (hw := fun _ => rfl) (hr := fun vs W hW => by rw [HY5.out]; clear hW; cases y4 <;> (go_simp; exact loose_val)) ?_
  simp only [Act.put, List.setIfInBounds_toArray, List.set_cons_zero, List.set_cons_succ, List.nil_append, List.cons_append, Nat.reduceAdd, Leaves.at]
  repeat (refine told_val (v := ?_) (fun _ => rfl) (fun vs W hW => ?_) ?_; rotate_left; (focus (have hf := HF.out W hW; clear hW; go_simp; exact loose_val)); simp only [Act.put, List.setIfInBounds_toArray, List.set_cons_zero, List.set_cons_succ, List.nil_append, List.cons_append, Nat.reduceAdd, Leaves.at])
  refine told_not (b := y5) (v := .pointer (some ⟨w.heap.size, 15, none⟩)) (fun _ => Bool.casesOn y5 rfl rfl) (fun hb vs W hW => by clear hW; subst hb; go_simp; exact loose_val) ?_
  simp only [Act.put, List.setIfInBounds_toArray, List.set_cons_zero, List.set_cons_succ, List.nil_append, List.cons_append, Nat.reduceAdd, Leaves.at]
  refine told_not (b := y5) (v := (.int .i64 t.boot)) (fun _ => Bool.casesOn y5 rfl rfl) (fun hb vs W hW => by subst hb; exact loose_ld (cs := thC t) rfl rfl (hW.blk HP1.out (fun h => h)) rfl na3) ?_
  simp only [Act.put, List.setIfInBounds_toArray, List.set_cons_zero, List.set_cons_succ, List.nil_append, List.cons_append, Nat.reduceAdd, Leaves.at]
  refine told_not (b := y5) (v := .pointer (some ⟨w.heap.size + 1, 15, none⟩)) (fun _ => Bool.casesOn y5 rfl rfl) (fun hb vs W hW => by clear hW; subst hb; go_simp; exact loose_val) ?_
  simp only [Act.put, List.setIfInBounds_toArray, List.set_cons_zero, List.set_cons_succ, List.nil_append, List.cons_append, Nat.reduceAdd, Leaves.at]
  refine told_not (b := y5) (v := (.int .i64 u.boot)) (fun _ => Bool.casesOn y5 rfl rfl) (fun hb vs W hW => by subst hb; exact loose_ld (cs := thC u) rfl rfl (hW.blk HP2.out (fun h => h)) rfl na3) ?_
  simp only [Act.put, List.setIfInBounds_toArray, List.set_cons_zero, List.set_cons_succ, List.nil_append, List.cons_append, Nat.reduceAdd, Leaves.at]
  refine told_not (b := y5) (v := .bool x6) (fun _ => Bool.casesOn y5 rfl rfl) (fun hb vs W hW => by rw [HX6.out]; clear hW; subst hb; go_simp; exact loose_val) ?_
  simp only [Act.put, List.setIfInBounds_toArray, List.set_cons_zero, List.set_cons_succ, List.nil_append, List.cons_append, Nat.reduceAdd, Leaves.at]
  refine told_val (v := .bool y6) (hw := fun _ => rfl) (hr := fun vs W hW => by rw [HY6.out]; clear hW; cases y5 <;> (go_simp; exact loose_val)) ?_
  simp only [Act.put, List.setIfInBounds_toArray, List.set_cons_zero, List.set_cons_succ, List.nil_append, List.cons_append, Nat.reduceAdd, Leaves.at]
  repeat (refine told_val (v := ?_) (fun _ => rfl) (fun vs W hW => ?_) ?_; rotate_left; (focus (have hf := HF.out W hW; clear hW; go_simp; exact loose_val)); simp only [Act.put, List.setIfInBounds_toArray, List.set_cons_zero, List.set_cons_succ, List.nil_append, List.cons_append, Nat.reduceAdd, Leaves.at])
  refine told_not (b := y6) (v := .pointer (some ⟨w.heap.size, 16, none⟩)) (fun _ => Bool.casesOn y6 rfl rfl) (fun hb vs W hW => by clear hW; subst hb; go_simp; exact loose_val) ?_
  simp only [Act.put, List.setIfInBounds_toArray, List.set_cons_zero, List.set_cons_succ, List.nil_append, List.cons_append, Nat.reduceAdd, Leaves.at]
  refine told_not (b := y6) (v := (.bool t.halt)) (fun _ => Bool.casesOn y6 rfl rfl) (fun hb vs W hW => by subst hb; exact loose_ld (cs := thC t) rfl rfl (hW.blk HP1.out (fun h => h)) rfl na4) ?_
  simp only [Act.put, List.setIfInBounds_toArray, List.set_cons_zero, List.set_cons_succ, List.nil_append, List.cons_append, Nat.reduceAdd, Leaves.at]
  refine told_not (b := y6) (v := .pointer (some ⟨w.heap.size + 1, 16, none⟩)) (fun _ => Bool.casesOn y6 rfl rfl) (fun hb vs W hW => by clear hW; subst hb; go_simp; exact loose_val) ?_
  simp only [Act.put, List.setIfInBounds_toArray, List.set_cons_zero, List.set_cons_succ, List.nil_append, List.cons_append, Nat.reduceAdd, Leaves.at]
  refine told_not (b := y6) (v := (.bool u.halt)) (fun _ => Bool.casesOn y6 rfl rfl) (fun hb vs W hW => by subst hb; exact loose_ld (cs := thC u) rfl rfl (hW.blk HP2.out (fun h => h)) rfl na4) ?_
  simp only [Act.put, List.setIfInBounds_toArray, List.set_cons_zero, List.set_cons_succ, List.nil_append, List.cons_append, Nat.reduceAdd, Leaves.at]
  refine told_not (b := y6) (v := .bool x7) (fun _ => Bool.casesOn y6 rfl rfl) (fun hb vs W hW => by rw [HX7.out]; clear hW; subst hb; go_simp; exact loose_val) ?_
  simp only [Act.put, List.setIfInBounds_toArray, List.set_cons_zero, List.set_cons_succ, List.nil_append, List.cons_append, Nat.reduceAdd, Leaves.at]
  refine told_val (v := .bool y7) (hw := fun _ => rfl) (hr := fun vs W hW => by rw [HY7.out]; clear hW; cases y6 <;> (go_simp; exact loose_val)) ?_
  simp only [Act.put, List.setIfInBounds_toArray, List.set_cons_zero, List.set_cons_succ, List.nil_append, List.cons_append, Nat.reduceAdd, Leaves.at]
  repeat (refine told_val (v := ?_) (fun _ => rfl) (fun vs W hW => ?_) ?_; rotate_left; (focus (have hf := HF.out W hW; clear hW; go_simp; exact loose_val)); simp only [Act.put, List.setIfInBounds_toArray, List.set_cons_zero, List.set_cons_succ, List.nil_append, List.cons_append, Nat.reduceAdd, Leaves.at])
  refine told_not (b := y7) (v := .pointer (some ⟨w.heap.size, 17, none⟩)) (fun _ => Bool.casesOn y7 rfl rfl) (fun hb vs W hW => by clear hW; subst hb; go_simp; exact loose_val) ?_
  simp only [Act.put, List.setIfInBounds_toArray, List.set_cons_zero, List.set_cons_succ, List.nil_append, List.cons_append, Nat.reduceAdd, Leaves.at]
  refine told_not (b := y7) (v := (.int .u64 t.value)) (fun _ => Bool.casesOn y7 rfl rfl) (fun hb vs W hW => by subst hb; exact loose_ld (cs := thC t) rfl rfl (hW.blk HP1.out (fun h => h)) rfl na24) ?_
  simp only [Act.put, List.setIfInBounds_toArray, List.set_cons_zero, List.set_cons_succ, List.nil_append, List.cons_append, Nat.reduceAdd, Leaves.at]
  refine told_not (b := y7) (v := .pointer (some ⟨w.heap.size + 1, 17, none⟩)) (fun _ => Bool.casesOn y7 rfl rfl) (fun hb vs W hW => by clear hW; subst hb; go_simp; exact loose_val) ?_
  simp only [Act.put, List.setIfInBounds_toArray, List.set_cons_zero, List.set_cons_succ, List.nil_append, List.cons_append, Nat.reduceAdd, Leaves.at]
  refine told_not (b := y7) (v := (.int .u64 u.value)) (fun _ => Bool.casesOn y7 rfl rfl) (fun hb vs W hW => by subst hb; exact loose_ld (cs := thC u) rfl rfl (hW.blk HP2.out (fun h => h)) rfl na24) ?_
  simp only [Act.put, List.setIfInBounds_toArray, List.set_cons_zero, List.set_cons_succ, List.nil_append, List.cons_append, Nat.reduceAdd, Leaves.at]
  refine told_not (b := y7) (v := .bool x8) (fun _ => Bool.casesOn y7 rfl rfl) (fun hb vs W hW => by rw [HX8.out]; clear hW; subst hb; go_simp; exact loose_val) ?_
  simp only [Act.put, List.setIfInBounds_toArray, List.set_cons_zero, List.set_cons_succ, List.nil_append, List.cons_append, Nat.reduceAdd, Leaves.at]
  refine told_val (v := .bool y8) (hw := fun _ => rfl) (hr := fun vs W hW => by rw [HY8.out]; clear hW; cases y7 <;> (go_simp; exact loose_val)) ?_
  simp only [Act.put, List.setIfInBounds_toArray, List.set_cons_zero, List.set_cons_succ, List.nil_append, List.cons_append, Nat.reduceAdd, Leaves.at]
  repeat (refine told_val (v := ?_) (fun _ => rfl) (fun vs W hW => ?_) ?_; rotate_left; (focus (have hf := HF.out W hW; clear hW; go_simp; exact loose_val)); simp only [Act.put, List.setIfInBounds_toArray, List.set_cons_zero, List.set_cons_succ, List.nil_append, List.cons_append, Nat.reduceAdd, Leaves.at])
  refine told_not (b := y8) (v := .pointer (some ⟨w.heap.size, 18, none⟩)) (fun _ => Bool.casesOn y8 rfl rfl) (fun hb vs W hW => by clear hW; subst hb; go_simp; exact loose_val) ?_
  simp only [Act.put, List.setIfInBounds_toArray, List.set_cons_zero, List.set_cons_succ, List.nil_append, List.cons_append, Nat.reduceAdd, Leaves.at]
  refine told_not (b := y8) (v := (slotsV t)) (fun _ => Bool.casesOn y8 rfl rfl) (fun hb vs W hW => by subst hb; exact loose_load (cur := t.cells) (vs := [.int .u64 t.s0, .int .u64 t.s1, .int .u64 t.s2, .int .u64 t.s3, .int .u64 t.s4, .int .u64 t.s5, .int .u64 t.s6, .int .u64 t.s7]) rfl rfl (hW.blk HP1.out (fun h => h)) agg59 size59 rfl) ?_
  simp only [Act.put, List.setIfInBounds_toArray, List.set_cons_zero, List.set_cons_succ, List.nil_append, List.cons_append, Nat.reduceAdd, Leaves.at]
  refine told_not (b := y8) (v := .pointer (some ⟨w.heap.size + 1, 18, none⟩)) (fun _ => Bool.casesOn y8 rfl rfl) (fun hb vs W hW => by clear hW; subst hb; go_simp; exact loose_val) ?_
  simp only [Act.put, List.setIfInBounds_toArray, List.set_cons_zero, List.set_cons_succ, List.nil_append, List.cons_append, Nat.reduceAdd, Leaves.at]
  refine told_not (b := y8) (v := (slotsV u)) (fun _ => Bool.casesOn y8 rfl rfl) (fun hb vs W hW => by subst hb; exact loose_load (cur := u.cells) (vs := [.int .u64 u.s0, .int .u64 u.s1, .int .u64 u.s2, .int .u64 u.s3, .int .u64 u.s4, .int .u64 u.s5, .int .u64 u.s6, .int .u64 u.s7]) rfl rfl (hW.blk HP2.out (fun h => h)) agg59 size59 rfl) ?_
  simp only [Act.put, List.setIfInBounds_toArray, List.set_cons_zero, List.set_cons_succ, List.nil_append, List.cons_append, Nat.reduceAdd, Leaves.at]
  refine told_not (b := y8) (v := .bool x9) (fun _ => Bool.casesOn y8 rfl rfl) (fun hb vs W hW => by rw [HX9.out]; subst hb; exact loose_neq59 rfl rfl rfl) ?_
  simp only [Act.put, List.setIfInBounds_toArray, List.set_cons_zero, List.set_cons_succ, List.nil_append, List.cons_append, Nat.reduceAdd, Leaves.at]
  refine told_val (v := .bool y9) (hw := fun _ => rfl) (hr := fun vs W hW => by rw [HY9.out]; clear hW; cases y8 <;> (go_simp; exact loose_val)) ?_
  simp only [Act.put, List.setIfInBounds_toArray, List.set_cons_zero, List.set_cons_succ, List.nil_append, List.cons_append, Nat.reduceAdd, Leaves.at]
  refine told_nil ?_
  intro vs W1 hW1 hok hap
  clear hap
  dsimp only
  have HW1 := hid hW1
  have HB1 := hid (HB.out.trans (since_below hW1 HB.out.size))
  clear hok hW1 HF
  cases y9 with
  | true =>
    go_wp2_with fail
    go_ret
    exact ⟨by rw [HE.out]; rfl, HB1.out⟩
  | false =>
    go_wp2_with (refine wp_list_told (l := { dst := some 74, op := _, type := _, pos := _, after := _, guard := _ } :: _) 32 32 nil_ rfl (by decide) ?_)
    have HF : Hid (∀ W, But nil_ W1 W → True) := fun W hW => trivial
    try simp only [List.take_succ_cons, List.take_zero, List.drop_succ_cons, List.drop_zero]
    refine told_val (v := .pointer (some ⟨w.heap.size, 2, none⟩)) (hw := fun _ => rfl) (hr := fun vs W hW => by clear hW; go_simp; exact loose_val) ?_
    simp only [Act.put, List.setIfInBounds_toArray, List.set_cons_zero, List.set_cons_succ, List.nil_append, List.cons_append, Nat.reduceAdd, Leaves.at]
    refine told_val (v := (.agg #[.int .i64 t.d1, .slice t.l1.a t.l1.n t.l1.c])) (hw := fun _ => rfl) (hr := fun vs W hW => loose_load (cur := t.cells) (vs := [.int .i64 t.d1, .slice t.l1.a t.l1.n t.l1.c]) rfl rfl ((HW1.out.trans hW).blk HP1.out (fun h => h)) agg26 size26 rfl) ?_
    simp only [Act.put, List.setIfInBounds_toArray, List.set_cons_zero, List.set_cons_succ, List.nil_append, List.cons_append, Nat.reduceAdd, Leaves.at]
    refine told_val (v := .pointer (some ⟨w.heap.size + 1, 2, none⟩)) (hw := fun _ => rfl) (hr := fun vs W hW => by clear hW; go_simp; exact loose_val) ?_
    simp only [Act.put, List.setIfInBounds_toArray, List.set_cons_zero, List.set_cons_succ, List.nil_append, List.cons_append, Nat.reduceAdd, Leaves.at]
    refine told_val (v := (.agg #[.int .i64 u.d1, .slice u.l1.a u.l1.n u.l1.c])) (hw := fun _ => rfl) (hr := fun vs W hW => loose_load (cur := u.cells) (vs := [.int .i64 u.d1, .slice u.l1.a u.l1.n u.l1.c]) rfl rfl ((HW1.out.trans hW).blk HP2.out (fun h => h)) agg26 size26 rfl) ?_
    simp only [Act.put, List.setIfInBounds_toArray, List.set_cons_zero, List.set_cons_succ, List.nil_append, List.cons_append, Nat.reduceAdd, Leaves.at]
    refine told_val (v := .bool e1) (fun _ => rfl) (fun vs W hW => ?_) ?_
    · go_simp
      exact loose_call (HZ1.out W (HW1.out.trans hW))
    simp only [Act.put, List.setIfInBounds_toArray, List.set_cons_zero, List.set_cons_succ, List.nil_append, List.cons_append, Nat.reduceAdd, Leaves.at]
    refine told_val (v := .bool c1) (hw := fun _ => rfl) (hr := fun vs W hW => by rw [HC1.out]; clear hW; go_simp; exact loose_val) ?_
    simp only [Act.put, List.setIfInBounds_toArray, List.set_cons_zero, List.set_cons_succ, List.nil_append, List.cons_append, Nat.reduceAdd, Leaves.at]
    repeat (refine told_val (v := ?_) (fun _ => rfl) (fun vs W hW => ?_) ?_; rotate_left; (focus (have hf := HF.out W hW; clear hW; go_simp; exact loose_val)); simp only [Act.put, List.setIfInBounds_toArray, List.set_cons_zero, List.set_cons_succ, List.nil_append, List.cons_append, Nat.reduceAdd, Leaves.at])
    refine told_not (b := c1) (v := .pointer (some ⟨w.heap.size, 4, none⟩)) (fun _ => Bool.casesOn c1 rfl rfl) (fun hb vs W hW => by clear hW; subst hb; go_simp; exact loose_val) ?_
    simp only [Act.put, List.setIfInBounds_toArray, List.set_cons_zero, List.set_cons_succ, List.nil_append, List.cons_append, Nat.reduceAdd, Leaves.at]
    refine told_not (b := c1) (v := (.agg #[.int .i64 t.d2, .slice t.l2.a t.l2.n t.l2.c])) (fun _ => Bool.casesOn c1 rfl rfl) (fun hb vs W hW => by subst hb; exact loose_load (cur := t.cells) (vs := [.int .i64 t.d2, .slice t.l2.a t.l2.n t.l2.c]) rfl rfl ((HW1.out.trans hW).blk HP1.out (fun h => h)) agg26 size26 rfl) ?_
    simp only [Act.put, List.setIfInBounds_toArray, List.set_cons_zero, List.set_cons_succ, List.nil_append, List.cons_append, Nat.reduceAdd, Leaves.at]
    refine told_not (b := c1) (v := .pointer (some ⟨w.heap.size + 1, 4, none⟩)) (fun _ => Bool.casesOn c1 rfl rfl) (fun hb vs W hW => by clear hW; subst hb; go_simp; exact loose_val) ?_
    simp only [Act.put, List.setIfInBounds_toArray, List.set_cons_zero, List.set_cons_succ, List.nil_append, List.cons_append, Nat.reduceAdd, Leaves.at]
    refine told_not (b := c1) (v := (.agg #[.int .i64 u.d2, .slice u.l2.a u.l2.n u.l2.c])) (fun _ => Bool.casesOn c1 rfl rfl) (fun hb vs W hW => by subst hb; exact loose_load (cur := u.cells) (vs := [.int .i64 u.d2, .slice u.l2.a u.l2.n u.l2.c]) rfl rfl ((HW1.out.trans hW).blk HP2.out (fun h => h)) agg26 size26 rfl) ?_
    simp only [Act.put, List.setIfInBounds_toArray, List.set_cons_zero, List.set_cons_succ, List.nil_append, List.cons_append, Nat.reduceAdd, Leaves.at]
    refine told_not (b := c1) (v := .bool e2) (fun _ => Bool.casesOn c1 rfl rfl) (fun hb vs W hW => ?_) ?_
    · try simp only [hb, cond_true, cond_false]
      go_simp
      exact loose_call (HZ2.out W (HW1.out.trans hW))
    simp only [Act.put, List.setIfInBounds_toArray, List.set_cons_zero, List.set_cons_succ, List.nil_append, List.cons_append, Nat.reduceAdd, Leaves.at]
    repeat (refine told_not (b := c1) (v := ?_) (fun _ => Bool.casesOn c1 rfl rfl) (fun hb vs W hW => ?_) ?_; rotate_left; (focus (have hf := HF.out W hW; clear hW; (try simp only [hb, cond_true, cond_false]); go_simp; exact loose_val)); simp only [Act.put, List.setIfInBounds_toArray, List.set_cons_zero, List.set_cons_succ, List.nil_append, List.cons_append, Nat.reduceAdd, Leaves.at])
    refine told_val (v := .bool c2) (hw := fun _ => rfl) (hr := fun vs W hW => by rw [HC2.out]; clear hW; cases c1 <;> (go_simp; exact loose_val)) ?_
    simp only [Act.put, List.setIfInBounds_toArray, List.set_cons_zero, List.set_cons_succ, List.nil_append, List.cons_append, Nat.reduceAdd, Leaves.at]
    repeat (refine told_val (v := ?_) (fun _ => rfl) (fun vs W hW => ?_) ?_; rotate_left; (focus (have hf := HF.out W hW; clear hW; go_simp; exact loose_val)); simp only [Act.put, List.setIfInBounds_toArray, List.set_cons_zero, List.set_cons_succ, List.nil_append, List.cons_append, Nat.reduceAdd, Leaves.at])
    refine told_not (b := c2) (v := .pointer (some ⟨w.heap.size, 9, none⟩)) (fun _ => Bool.casesOn c2 rfl rfl) (fun hb vs W hW => by clear hW; subst hb; go_simp; exact loose_val) ?_
    simp only [Act.put, List.setIfInBounds_toArray, List.set_cons_zero, List.set_cons_succ, List.nil_append, List.cons_append, Nat.reduceAdd, Leaves.at]
    refine told_not (b := c2) (v := (.slice t.data.a t.data.n t.data.c)) (fun _ => Bool.casesOn c2 rfl rfl) (fun hb vs W hW => by subst hb; exact loose_ld (cs := thC t) rfl rfl ((HW1.out.trans hW).blk HP1.out (fun h => h)) rfl na57) ?_
    simp only [Act.put, List.setIfInBounds_toArray, List.set_cons_zero, List.set_cons_succ, List.nil_append, List.cons_append, Nat.reduceAdd, Leaves.at]
    refine told_not (b := c2) (v := .string (strOfNums p.data)) (fun _ => Bool.casesOn c2 rfl rfl) (fun hb vs W hW => by subst hb; exact loose_conv57 rfl rfl (H.out.since_ (HW1.out.trans hW)).dt) ?_
    simp only [Act.put, List.setIfInBounds_toArray, List.set_cons_zero, List.set_cons_succ, List.nil_append, List.cons_append, Nat.reduceAdd, Leaves.at]
    refine told_not (b := c2) (v := .pointer (some ⟨w.heap.size + 1, 9, none⟩)) (fun _ => Bool.casesOn c2 rfl rfl) (fun hb vs W hW => by clear hW; subst hb; go_simp; exact loose_val) ?_
    simp only [Act.put, List.setIfInBounds_toArray, List.set_cons_zero, List.set_cons_succ, List.nil_append, List.cons_append, Nat.reduceAdd, Leaves.at]
    refine told_not (b := c2) (v := (.slice u.data.a u.data.n u.data.c)) (fun _ => Bool.casesOn c2 rfl rfl) (fun hb vs W hW => by subst hb; exact loose_ld (cs := thC u) rfl rfl ((HW1.out.trans hW).blk HP2.out (fun h => h)) rfl na57) ?_
    simp only [Act.put, List.setIfInBounds_toArray, List.set_cons_zero, List.set_cons_succ, List.nil_append, List.cons_append, Nat.reduceAdd, Leaves.at]
    refine told_not (b := c2) (v := .string (strOfNums q.data)) (fun _ => Bool.casesOn c2 rfl rfl) (fun hb vs W hW => by subst hb; exact loose_conv57 rfl rfl (H'.out.since_ (HW1.out.trans hW)).dt) ?_
    simp only [Act.put, List.setIfInBounds_toArray, List.set_cons_zero, List.set_cons_succ, List.nil_append, List.cons_append, Nat.reduceAdd, Leaves.at]
    refine told_not (b := c2) (v := .bool e4) (fun _ => Bool.casesOn c2 rfl rfl) (fun hb vs W hW => by rw [HE4.out]; subst hb; exact loose_neqS rfl rfl rfl HFt.out HFu.out) ?_
    simp only [Act.put, List.setIfInBounds_toArray, List.set_cons_zero, List.set_cons_succ, List.nil_append, List.cons_append, Nat.reduceAdd, Leaves.at]
    refine told_val (v := .bool c3) (hw := fun _ => rfl) (hr := fun vs W hW => by rw [HC3.out]; clear hW; cases c2 <;> (go_simp; exact loose_val)) ?_
    simp only [Act.put, List.setIfInBounds_toArray, List.set_cons_zero, List.set_cons_succ, List.nil_append, List.cons_append, Nat.reduceAdd, Leaves.at]
    repeat (refine told_val (v := ?_) (fun _ => rfl) (fun vs W hW => ?_) ?_; rotate_left; (focus (have hf := HF.out W hW; clear hW; go_simp; exact loose_val)); simp only [Act.put, List.setIfInBounds_toArray, List.set_cons_zero, List.set_cons_succ, List.nil_append, List.cons_append, Nat.reduceAdd, Leaves.at])
    refine told_not (b := c3) (v := .pointer (some ⟨w.heap.size, 8, none⟩)) (fun _ => Bool.casesOn c3 rfl rfl) (fun hb vs W hW => by clear hW; subst hb; go_simp; exact loose_val) ?_
    simp only [Act.put, List.setIfInBounds_toArray, List.set_cons_zero, List.set_cons_succ, List.nil_append, List.cons_append, Nat.reduceAdd, Leaves.at]
    refine told_not (b := c3) (v := (.slice t.links.a t.links.n t.links.c)) (fun _ => Bool.casesOn c3 rfl rfl) (fun hb vs W hW => by subst hb; exact loose_ld (cs := thC t) rfl rfl ((HW1.out.trans hW).blk HP1.out (fun h => h)) rfl na56) ?_
    simp only [Act.put, List.setIfInBounds_toArray, List.set_cons_zero, List.set_cons_succ, List.nil_append, List.cons_append, Nat.reduceAdd, Leaves.at]
    refine told_not (b := c3) (v := (.int .i64 (t.links.n : Int))) (fun _ => Bool.casesOn c3 rfl rfl) (fun hb vs W hW => by clear hW; subst hb; go_simp; exact loose_val) ?_
    simp only [Act.put, List.setIfInBounds_toArray, List.set_cons_zero, List.set_cons_succ, List.nil_append, List.cons_append, Nat.reduceAdd, Leaves.at]
    refine told_not (b := c3) (v := .pointer (some ⟨w.heap.size + 1, 8, none⟩)) (fun _ => Bool.casesOn c3 rfl rfl) (fun hb vs W hW => by clear hW; subst hb; go_simp; exact loose_val) ?_
    simp only [Act.put, List.setIfInBounds_toArray, List.set_cons_zero, List.set_cons_succ, List.nil_append, List.cons_append, Nat.reduceAdd, Leaves.at]
    refine told_not (b := c3) (v := (.slice u.links.a u.links.n u.links.c)) (fun _ => Bool.casesOn c3 rfl rfl) (fun hb vs W hW => by subst hb; exact loose_ld (cs := thC u) rfl rfl ((HW1.out.trans hW).blk HP2.out (fun h => h)) rfl na56) ?_
    simp only [Act.put, List.setIfInBounds_toArray, List.set_cons_zero, List.set_cons_succ, List.nil_append, List.cons_append, Nat.reduceAdd, Leaves.at]
    refine told_not (b := c3) (v := (.int .i64 (u.links.n : Int))) (fun _ => Bool.casesOn c3 rfl rfl) (fun hb vs W hW => by clear hW; subst hb; go_simp; exact loose_val) ?_
    simp only [Act.put, List.setIfInBounds_toArray, List.set_cons_zero, List.set_cons_succ, List.nil_append, List.cons_append, Nat.reduceAdd, Leaves.at]
    refine told_not (b := c3) (v := .bool e5) (fun _ => Bool.casesOn c3 rfl rfl) (fun hb vs W hW => by rw [HE5.out]; clear hW; subst hb; go_simp; exact loose_val) ?_
    simp only [Act.put, List.setIfInBounds_toArray, List.set_cons_zero, List.set_cons_succ, List.nil_append, List.cons_append, Nat.reduceAdd, Leaves.at]
    refine told_val (v := .bool c4) (hw := fun _ => rfl) (hr := fun vs W hW => by rw [HC4.out]; clear hW; cases c3 <;> (go_simp; exact loose_val)) ?_
    simp only [Act.put, List.setIfInBounds_toArray, List.set_cons_zero, List.set_cons_succ, List.nil_append, List.cons_append, Nat.reduceAdd, Leaves.at]
    refine told_nil ?_
    intro vs W2 hW2 hok hap
    clear hap
    dsimp only
    have HW2 := hid (HW1.out.trans hW2)
    have HB2 := hid (HB1.out.trans (since_below hW2 HB1.out.size))
    clear hok hW2 HF
    cases c4 with
    | true =>
      go_wp2_with fail
      go_ret
      exact ⟨by rw [HE.out]; rfl, HB2.out⟩
    | false =>
      have hnn : t.links.n = u.links.n := by
        have h1 : (c3 || e5) = false := HC4.out.symm
        have h2 : e5 = false := by cases c3 <;> simp_all
        rw [HE5.out] at h2
        have h3 : ((t.links.n : Int) == (u.links.n : Int)) = true := by simpa using h2
        have h4 : (t.links.n : Int) = (u.links.n : Int) := by simpa using h3
        omega
      have HNN := hid hnn
      have HE2 : Hid (sameT t p u q = eqB p.links q.links) := by show _ = _; rw [HE.out]; rfl
      have HT := hid ((H.out.since_ HW2.out).lk)
      have HT' := hid ((H'.out.since_ HW2.out).lk)
      have hmx : t.links.n ≤ 9223372036854775807 := by have := HT.out.cap; have := HT.out.max; unfold maxLen at this; omega
      have f1 : W2.cell? ⟨w.heap.size, 8, none⟩ = some (.slice t.links.a t.links.n t.links.c) := (Blk.cells26 (HW2.out.blk HP1.out (fun h => h))).2.2.1
      have HQ1 := hid (HW2.out.blk HP1.out (fun h => h))
      have HQ2 := hid (HW2.out.blk HP2.out (fun h => h))
      clear hnn
      go_wp2_with fail
      skip
      go_loopw [109] (fun vi wr => ∃ k : Nat, k ≤ t.links.n ∧ vi = .int .i64 k ∧ Hid (Below W2.heap.size W2 wr) ∧ Hid (∀ j, j < k → p.links[j]? = q.links[j]?)) (fun vi _ => t.links.n - (intOf vi).toNat)
      case atStart => exact ⟨0, Nat.zero_le _, rfl, Below.refl _ _, fun j hj => absurd hj (by omega)⟩
      case round =>
        obtain ⟨k, hk, rfl, BW, EQ⟩ := hrel
        clear f1
        by_cases hlt : k < t.links.n
        · have hltz : (k : Int) < (t.links.n : Int) := by omega
          have hltu : (k : Int) < (u.links.n : Int) := by have := HNN.out; omega
          obtain ⟨b, off, i, v, hA, hbB, hx, c0, c1⟩ := (HT.out.below BW.out).at2_ hlt
          obtain ⟨b', off', i', v', hA', hbB', hx', c0', c1'⟩ := (HT'.out.below BW.out).at2_ (k := k) (by have := HNN.out; omega)
          have HX := hid hx
          have HX' := hid hx'
          clear hx hx'
          have r1 := HQ1.out.below BW.out HQ1.out.lt
          have r2 := HQ2.out.below BW.out HQ2.out.lt
          have f2 : wr.cell? ⟨w.heap.size, 8, none⟩ = some (.slice (some ⟨b, off, none⟩) t.links.n t.links.c) := by rw [← hA]; exact (Blk.cells26 r1).2.2.1
          have f4 : wr.cell? ⟨w.heap.size + 1, 8, none⟩ = some (.slice (some ⟨b', off', none⟩) u.links.n u.links.c) := by rw [← hA']; exact (Blk.cells26 r2).2.2.1
          clear r1 r2 hA hA'
          by_cases hi : i = i'
          · subst hi
            by_cases hv : v = v'
            · subst hv
              go_wp2_with fail
              go_quiet (fail)
              go_wp2_with fail
              go_roundw
              case measure => simp [intOf] <;> omega
              case rel =>
                refine ⟨k + 1, by omega, by go_num, below_drewN' BW.out _, (show Hid _ from fun j hj => ?_)⟩
                by_cases e : j = k
                · subst e; rw [HX.out, HX'.out]
                · exact EQ.out j (by omega)
            · have HE3 : Hid (eqB p.links q.links = false) := decide_eq_false fun h => differ_at HX.out HX'.out (fun e => hv e.2) h
              have hb : (v == v') = false := by simpa using hv
              go_wp2_with fail
              go_quiet (fail)
              go_wp2_with fail
              go_ret
              exact ⟨by rw [HE2.out, HE3.out]; rfl, HB2.out.trans ((below_drewN' BW.out _).mono HB2.out.size)⟩
          · have HE3 : Hid (eqB p.links q.links = false) := decide_eq_false fun h => differ_at HX.out HX'.out (fun e => hi e.1) h
            have hb : (i == i') = false := by simpa using hi
            go_wp2_with fail
            go_quiet (fail)
            go_wp2_with fail
            go_ret
            exact ⟨by rw [HE2.out, HE3.out]; rfl, HB2.out.trans ((below_drewN' BW.out _).mono HB2.out.size)⟩
        · have hltz : ¬ (k : Int) < (t.links.n : Int) := by omega
          have hkn : k = t.links.n := by omega
          have HKN := hid hkn
          clear hkn
          have HE3 : Hid (eqB p.links q.links = true) := decide_eq_true (same_to HT.out.len (HT'.out.len.trans HNN.out.symm) fun j hj => EQ.out j (by have := HKN.out; omega))
          go_wp2_with fail
          have hdone : True := trivial
          go_ret
          exact ⟨by rw [HE2.out, HE3.out]; rfl, HB2.out.trans (BW.out.mono HB2.out.size)⟩
end Go.Proofs.Ytndohmimcbmhdaa

/- A drawn region that computes, calls, makes variables and fills them, walked once in the text's order. -/
set_option linter.unusedVariables false
set_option linter.unusedSimpArgs false
namespace Go.Proofs.Ytndohmimcbmhdaa
open Go.RowKit

theorem But.into' {D D' : Nat → Prop} {a b : World} (h : But D a b) (hD : ∀ k, D k → D' k) : But D' a b := ⟨h.os, h.tape, h.output, h.size, fun k hk hn => h.block k hk fun hd => hn (hD k hd)⟩
/-- What an operation leaves: a known value; a value that is told by a relation over the blocks [lo, hi); a new variable; a variable filled: the j-th operation's, with the k-th one's value. -/
inductive Lz where
  | val (v : Value)
  | part (R : Nat → Nat → World → Value → Prop)
  | box (T : TypeId) (cs : Array Value)
  | fill (j k : Nat) (C : World → Value → Value → Prop)
def Lz.toL : Lz → Leaves
  | .val v => .val v
  | .fill _ _ _ => .val undef
  | .part _ => .rel fun _ _ => True
  | .box _ _ => .rel fun _ _ => True
def Lz.isBox : Lz → Bool | .box _ _ => true | _ => false
def ptr (b : Nat) : Value := .pointer (some ⟨b, 0, none⟩)
theorem ptr_block (b : Nat) : blockOf (ptr b) = some b := rfl
def Away (S : Nat → Lz) (N : Nat) (listed : Array Bool) (vs : Nat → Value) (W : World) (lo hi : Nat) : Prop :=
  hi ≤ W.heap.size ∧ ∀ j b, j < N → listed.getD j false = true → (S j).isBox = true → blockOf (vs j) = some b → b < lo ∨ hi ≤ b
def depOk (s : Lz) (Good : Nat → Nat → Prop) (w W : World) (u : Value) : Prop := match s with
  | .val v => u = v
  | .part R => ∃ lo hi, Good lo hi ∧ R lo hi W u
  | .box _ _ => ∃ b, u = ptr b ∧ w.heap.size ≤ b ∧ b < W.heap.size
  | .fill _ _ _ => u = undef
def zGot (s : Lz) (vs : Nat → Value) (Good : Nat → Nat → Prop) (W W' : World) (u : Value) : Prop := match s with
  | .val v => Since W W' ∧ u = v
  | .part R => Since W W' ∧ ∃ lo hi, (Good lo hi ∨ (lo = W.heap.size ∧ hi = W'.heap.size)) ∧ R lo hi W' u
  | .box T cs => Since W W' ∧ u = ptr W.heap.size ∧ Blk W' W.heap.size T cs
  | .fill j k C => But (fun m => blockOf (vs j) = some m) W W' ∧ u = undef ∧ C W' (vs j) (vs k)
def zUpon (P : Program) (s : Lz) (vs : Nat → Value) (Good : Nat → Nat → Prop) (W : World) : Result Next → Prop
  | .ok (.value u) W' => zGot s vs Good W W' u
  | .ok .skip W' => zGot s vs Good W W' undef
  | .ok (.enter f args) W' => Calls P f args W' fun e W'' => ∃ u, e = .returned u ∧ zGot s vs Good W W'' u
  | _ => False
def Lz.steady (w : World) (s : Lz) : Prop := match s with
  | .part R => ∀ lo hi W W' u, Since w W → But (fun k => w.heap.size ≤ k ∧ (k < lo ∨ hi ≤ k)) W W' → R lo hi W u → R lo hi W' u
  | .fill _ _ C => ∀ W W' x y b, blockOf x = some b → b < W.heap.size → But (fun k => w.heap.size ≤ k ∧ k ≠ b) W W' → C W x y → C W' x y
  | _ => True

theorem wp_of_z {P : Program} {o : Oper} {a : Act} {s : Lz} {vs : Nat → Value} {Good : Nat → Nat → Prop} {W : World} {K : Act → World → Prop} {Q : Exit → Act → World → Prop}
    (h : zUpon P s vs Good W ((execOp a.eval o).run P W)) (k : ∀ u W', zGot s vs Good W W' u → K (a.put o.dst u) W') : o.wp P a W K Q := by
  unfold Oper.wp
  generalize (execOp a.eval o).run P W = r at *
  cases r with
  | ok n W' =>
    cases n <;> simp only [zUpon] at h <;> simp only [Oper.upon]
    case value u => exact k _ _ h
    case skip => exact k _ _ h
    case enter f args =>
      refine h.mono fun e W'' ⟨u, he, hb⟩ => ?_
      subst he
      exact k _ _ hb
  | halt x W' => simp only [zUpon] at h

structure Laz (P : Program) (ops : Array Oper) (N : Nat) (a : Act) (w : World) (S : Nat → Lz) : Prop where
  run : ∀ i o, i < N → ops[i]? = some o →
    ((∀ vs, Region.wanted o (yielded ops (lay ops a (fun j => (S j).toL) vs i).tmps) = true) ∧ (∀ vs W Good, Since w W → (∀ e ∈ o.after, Region.binds .any e = true → e.on < i → depOk (S e.on) Good w W (vs e.on)) →
      (∀ j k C, S i = .fill j k C → ∀ T cs, S j = .box T cs → ∃ b, vs j = ptr b ∧ Blk W b T cs) → zUpon P (S i) vs Good W ((execOp (lay ops a (fun j => (S j).toL) vs i).eval o).run P W))) ∨
    ((∀ vs, Region.wanted o (yielded ops (lay ops a (fun j => (S j).toL) vs i).tmps) = false) ∧ S i = .val undef)
  steady : ∀ i, i < N → (S i).steady w
  fills : ∀ i j k C, i < N → S i = .fill j k C → j < i ∧ k < i ∧ (S j).isBox = true ∧ waitsB ops i j = true ∧ waitsB ops i k = true
  one : ∀ i i' j k C k' C', i < N → i' < N → S i = .fill j k C → S i' = .fill j k' C' → i = i'

structure Waz (ops : Array Oper) (N : Nat) (a : Act) (w : World) (S : Nat → Lz) (listed : Array Bool) (vs : Nat → Value) (b : Act) (W : World) : Prop where
  inv : HeadInv .any ops N listed
  but : Since w W
  val : ∀ j v, j < N → listed.getD j false = true → S j = .val v → vs j = v
  part : ∀ j R, j < N → listed.getD j false = true → S j = .part R → ∃ lo hi, Away S N listed vs W lo hi ∧ R lo hi W (vs j)
  box : ∀ j T cs, j < N → listed.getD j false = true → S j = .box T cs → ∃ g, vs j = ptr g ∧ w.heap.size ≤ g ∧ g < W.heap.size ∧ ((∀ i k C, i < N → S i = .fill j k C → listed.getD i false = false) → Blk W g T cs)
  fill : ∀ i j k C, i < N → listed.getD i false = true → S i = .fill j k C → vs i = undef ∧ C W (vs j) (vs k)
  apart : ∀ j k, j < N → k < N → j ≠ k → listed.getD j false = true → listed.getD k false = true → (S j).isBox = true → (S k).isBox = true → blockOf (vs j) ≠ blockOf (vs k)
  tsize : b.tmps.size = a.tmps.size
  defers : b.defers = a.defers
  hit : ∀ j t, j < N → listed.getD j false = true → dstOf ops j = some t → t < a.tmps.size → b.tmps[t]? = some ((S j).toL.at (vs j))
  miss : ∀ t, (∀ j, j < N → listed.getD j false = true → dstOf ops j ≠ some t) → b.tmps[t]? = a.tmps[t]?

theorem Lz.box_of {s : Lz} (h : s.isBox = true) : ∃ T cs, s = .box T cs := by
  cases s with
  | box T cs => exact ⟨T, cs, rfl⟩
  | val v => exact Bool.noConfusion h
  | part R => exact Bool.noConfusion h
  | fill j k C => exact Bool.noConfusion h

section
variable {P : Program} {ops : Array Oper} {N : Nat} {a : Act} {w : World} {S : Nat → Lz}

theorem waz_done {listed : Array Bool} {vs : Nat → Value} {b : Act} {W : World} (hB : looseB ops N = true) (h : Waz ops N a w S listed vs b W) (hz : togo listed N = 0) : b = lay ops a (fun j => (S j).toL) vs N ∧ listed = headArr N ops.size := by
  obtain ⟨_, hN, hdst, _, _, _⟩ := looseB_parts hB
  have hall := togo_zero hz
  constructor
  · have ht : b.tmps = (lay ops a (fun j => (S j).toL) vs N).tmps := by
      apply Array.ext_getElem?
      intro t
      by_cases hx : ∃ j, j < N ∧ dstOf ops j = some t
      · obtain ⟨j, hj, hd⟩ := hx
        by_cases htl : t < a.tmps.size
        · rw [h.hit j t hj (hall j hj) hd htl, lay_some ops a (fun j => (S j).toL) vs t htl j N hj hd fun k hk hk2 => hdst k j t hk hj hk2 hd]
        · rw [Array.getElem?_eq_none (by rw [h.tsize]; omega), Array.getElem?_eq_none (by rw [lay_size]; omega)]
      · have hx2 : ∀ j, j < N → dstOf ops j ≠ some t := fun j hj hd => hx ⟨j, hj, hd⟩
        rw [h.miss t fun j hj _ => hx2 j hj, lay_none ops a (fun j => (S j).toL) vs t N hx2]
    have hd : b.defers = (lay ops a (fun j => (S j).toL) vs N).defers := by rw [h.defers, lay_defers]
    cases b
    cases hl : lay ops a (fun j => (S j).toL) vs N
    rw [hl] at ht hd
    simp only at ht hd
    rw [ht, hd]
  · apply Array.ext_getElem?
    intro t
    by_cases hts : t < ops.size
    · have e1 : listed[t]? = some (listed.getD t false) := by simp [h.inv.size, hts]
      rw [e1]
      have e2 : (headArr N ops.size)[t]? = some (decide (t < N)) := by simp [headArr, hts]
      rw [e2]
      by_cases hn : t < N
      · rw [hall t hn]; simp [hn]
      · rw [getD_both (h.inv.tail t (by omega) hts)]; simp [hn]
    · rw [Array.getElem?_eq_none (by rw [h.inv.size]; omega), Array.getElem?_eq_none (by simp [headArr]; omega)]

/-- What is known of each at the end. -/
def Fin (S : Nat → Lz) (N : Nat) (vs : Nat → Value) (W : World) : Prop :=
  (∀ j v, j < N → S j = .val v → vs j = v) ∧ (∀ j R, j < N → S j = .part R → ∃ lo hi, R lo hi W (vs j)) ∧ (∀ j T cs, j < N → S j = .box T cs → ∃ g, vs j = ptr g ∧ g < W.heap.size) ∧ (∀ i j k C, i < N → S i = .fill j k C → C W (vs j) (vs k))

theorem waz_go {Q : Exit → Act → World → Prop} (hB : looseB ops N = true) (hL : Laz P ops N a w S)
    (hQ : ∀ vs W, Since w W → Fin S N vs W → wpList P ops Q (ops.toList.drop N) (lay ops a (fun j => (S j).toL) vs N) W) :
    ∀ (m : Nat) (listed : Array Bool) (vs : Nat → Value) (b : Act) (W : World), togo listed N = m → Waz ops N a w S listed vs b W → wpAny P .any ops Q (m + (ops.size - N)) listed b W := by
  obtain ⟨hsel, hN, hdst, hdeps, htail, hseq⟩ := looseB_parts hB
  intro m
  induction m with
  | zero =>
    intro listed vs b W hm h
    obtain ⟨rfl, rfl⟩ := waz_done hB h hm
    have hall := togo_zero hm
    have := wpAny_of_seq (md := .any) (Q' := Q) (ops.toList.drop N) N (headArr N ops.size) (lay ops a (fun j => (S j).toL) vs N) W (fun j => by simp [List.getElem?_drop]) (by simpa using hseq)
      (hQ vs W h.but ⟨fun j v hj e => h.val j v hj (hall j hj) e, fun j R hj e => by obtain ⟨lo, hi, _, hr⟩ := h.part j R hj (hall j hj) e; exact ⟨lo, hi, hr⟩,
        fun j T cs hj e => by obtain ⟨g, e1, _, e2, _⟩ := h.box j T cs hj (hall j hj) e; exact ⟨g, e1, e2⟩, fun i j k C hi e => (h.fill i j k C hi (hall i hi) e).2⟩)
    rw [Nat.zero_add]
    simpa using this
  | succ m ih =>
    intro listed vs b W hm h
    rw [show m + 1 + (ops.size - N) = (m + (ops.size - N)) + 1 by omega]
    obtain ⟨j0, hj0, hu0, hl0⟩ := togo_pos (listed := listed) (N := N) (by omega)
    have hin : ∀ j, j < N → listed.getD j false = false → listed.getD j true = false := fun j hj hu => by
      have : j < listed.size := by rw [h.inv.size]; omega
      simp [this] at hu ⊢; exact hu
    refine ⟨fun hr => ?_, fun i hi => ?_⟩
    · have hj0s : j0 < ops.size := by omega
      have : j0 ∈ Region.ready .any ops listed := mem_ready.2 ⟨hin j0 hj0 hu0, ops[j0], by simp [hj0s], fun e he hb => hl0 _ ((hdeps j0 _ hj0 (by simp [hj0s])).1 e he hb)⟩
      rw [hr] at this
      cases this
    · obtain ⟨hun, o, ho, hall⟩ := mem_ready.1 hi
      have his : i < ops.size := (Array.getElem?_eq_some_iff.1 ho).1
      have hiN : i < N := by
        rcases Nat.lt_or_ge i N with hlt | hge
        · exact hlt
        · rcases htail with he | ⟨hs, hc⟩
          · omega
          · exact absurd hi (tail_waits hs hc (by omega) h.inv _ j0 rfl hj0 (hin j0 hj0 hu0) i hge)
      obtain ⟨hils, hiu⟩ := unlisted_of hun
      have hdo : dstOf ops i = o.dst := by simp [dstOf, ho]
      obtain ⟨hdep, hlook⟩ := hdeps i o hiN ho
      have waited : ∀ j, waitsB ops i j = true → listed.getD j false = true := fun j hw => by
        obtain ⟨o', ho', e, he, hb, hon⟩ := Region.waitsFor_spec hw
        obtain rfl : o' = o := Option.some.inj (ho'.symm.trans ho)
        have := hall e he hb
        rwa [hon] at this
      have hagree : ∀ t ∈ o.looksAt ops, b.tmps[t]? = (lay ops a (fun j => (S j).toL) vs i).tmps[t]? := by
        intro t ht
        by_cases hx : ∃ j, j < N ∧ dstOf ops j = some t
        · obtain ⟨j, hj, hd⟩ := hx
          obtain ⟨hji, hw⟩ := hlook t ht j hj hd
          have hlj := waited j hw
          by_cases htl : t < a.tmps.size
          · rw [h.hit j t hj hlj hd htl, lay_some ops a (fun j => (S j).toL) vs t htl j i hji hd fun k hk hk2 => hdst k j t (by omega) hj hk2 hd]
          · rw [Array.getElem?_eq_none (by rw [h.tsize]; exact Nat.not_lt.1 htl), Array.getElem?_eq_none (by rw [lay_size]; exact Nat.not_lt.1 htl)]
        · have hx2 : ∀ j, j < N → dstOf ops j ≠ some t := fun j hj hd => hx ⟨j, hj, hd⟩
          rw [h.miss t fun j hj _ => hx2 j hj, lay_none ops a (fun j => (S j).toL) vs t i fun j hj => hx2 j (by omega)]
      obtain ⟨hex, hwa⟩ := exec_same (ops := ops) (fun cs d => Region.noSelect_spec hsel i o cs d ho) hagree
      have hnext : ∀ u W', zGot (S i) vs (Away S N listed vs W) W W' u → wpAny P .any ops Q (m + (ops.size - N)) (listed.setIfInBounds i true) (b.put o.dst u) W' := by
        intro u W' hg
        have hput : (S i).toL.at u = u := by
          cases hs : S i with
          | val v => rw [hs] at hg; exact hg.2.symm
          | part R => rfl
          | box T cs => rfl
          | fill j k C => rw [hs] at hg; exact hg.2.1.symm
        -- which blocks may have turned
        have hbut : But (fun m => ∃ j k C, S i = .fill j k C ∧ blockOf (vs j) = some m) W W' := by
          cases hs : S i with
          | val v => rw [hs] at hg; exact ⟨hg.1.os, hg.1.tape, hg.1.output, hg.1.size, fun k hk _ => hg.1.block k hk (fun x => x)⟩
          | part R => rw [hs] at hg; exact ⟨hg.1.os, hg.1.tape, hg.1.output, hg.1.size, fun k hk _ => hg.1.block k hk (fun x => x)⟩
          | box T cs => rw [hs] at hg; exact ⟨hg.1.os, hg.1.tape, hg.1.output, hg.1.size, fun k hk _ => hg.1.block k hk (fun x => x)⟩
          | fill j k C => rw [hs] at hg; exact ⟨hg.1.os, hg.1.tape, hg.1.output, hg.1.size, fun m hm hn => hg.1.block m hm (fun x => hn ⟨j, k, C, rfl, x⟩)⟩
        have hfb : ∀ j k C, S i = .fill j k C → ∃ g, vs j = ptr g ∧ w.heap.size ≤ g ∧ g < W.heap.size ∧ listed.getD j false = true ∧ (S j).isBox = true ∧ j < N := fun j k C hs => by
          obtain ⟨h1, _, h3, h4, _⟩ := hL.fills i j k C hiN hs
          obtain ⟨T, cs, hbx⟩ := Lz.box_of h3
          obtain ⟨g, e1, e2, e3, _⟩ := h.box j T cs (by omega) (waited j h4) hbx
          exact ⟨g, e1, e2, e3, waited j h4, h3, by omega⟩
        have hsince : Since w W' := ⟨hbut.os.trans h.but.os, hbut.tape.trans h.but.tape, hbut.output.trans h.but.output, Nat.le_trans h.but.size hbut.size, fun k hk _ => by
          have h1 := h.but.block k hk (fun x => x)
          rw [← h1]
          refine hbut.block k (Nat.lt_of_lt_of_le hk h.but.size) fun ⟨j, k', C, hs, hbk⟩ => ?_
          obtain ⟨g, e1, e2, _⟩ := hfb j k' C hs
          rw [e1, ptr_block] at hbk
          cases hbk
          omega⟩
        have hlist : ∀ j, (listed.setIfInBounds i true).getD j false = true → j = i ∨ listed.getD j false = true := fun j hj => by
          by_cases e : j = i
          · exact .inl e
          · rw [getD_set_ne false (Ne.symm e)] at hj; exact .inr hj
        have hold : ∀ j, listed.getD j false = true → j ≠ i := fun j hj e => by subst e; rw [hiu] at hj; cases hj
        -- the value of an elder one stays
        have hvs : ∀ j, j ≠ i → (if j = i then u else vs j) = vs j := fun j hj => if_neg hj
        have hbi : (S i).isBox = true → u = ptr W.heap.size ∧ W.heap.size < W'.heap.size := fun hx => by
          obtain ⟨T, cs, hs⟩ := Lz.box_of hx
          rw [hs] at hg
          exact ⟨hg.2.1, Blk.lt hg.2.2⟩
        have haway : ∀ lo hi, Away S N listed vs W lo hi → Away S N (listed.setIfInBounds i true) (fun j => if j = i then u else vs j) W' lo hi := fun lo hi ⟨h1, h2⟩ => by
          refine ⟨Nat.le_trans h1 hbut.size, fun j g hj hjl hbx hg' => ?_⟩
          by_cases e : j = i
          · subst e
            dsimp only at hg'
            rw [if_pos rfl, (hbi hbx).1, ptr_block] at hg'
            cases hg'
            exact .inr h1
          · rcases hlist j hjl with h3 | h3
            · exact absurd h3 e
            · dsimp only at hg'
              rw [if_neg e] at hg'
              exact h2 j g hj h3 hbx hg'
        refine ih (listed.setIfInBounds i true) (fun j => if j = i then u else vs j) (b.put o.dst u) W' (by have := togo_set (N := N) hiN hils hiu; omega) ?_
        refine ⟨h.inv.set hi hiN, hsince, fun j v hj hjl hs => ?_, fun j R hj hjl hs => ?_, fun j T cs hj hjl hs => ?_, fun i' j k C hi' hil hs => ?_, fun j k hj hk hne hjl hkl hbj hbk => ?_, by rw [put_size, h.tsize], by rw [put_defers_, h.defers], fun j t hj hjl hd htl => ?_, fun t hno => ?_⟩
        · by_cases e : j = i
          · subst e; rw [hs] at hg; simpa using hg.2
          · rcases hlist j hjl with h1 | h1
            · exact absurd h1 e
            · rw [hvs j e]; exact h.val j v hj h1 hs
        · by_cases e : j = i
          · subst e
            rw [hs] at hg
            obtain ⟨hsi, lo, hi2, hgd, hr⟩ := hg
            refine ⟨lo, hi2, ?_, by simpa using hr⟩
            rcases hgd with hgd | ⟨rfl, rfl⟩
            · exact haway lo hi2 hgd
            · refine ⟨Nat.le_refl _, fun j' g hj' hjl' hbx hg' => ?_⟩
              by_cases e' : j' = j
              · subst e'; rw [hs] at hbx; cases hbx
              · rcases hlist j' hjl' with h3 | h3
                · exact absurd h3 e'
                · dsimp only at hg'
                  rw [if_neg e'] at hg'
                  obtain ⟨T, cs, hb'⟩ := Lz.box_of hbx
                  obtain ⟨g2, e1, _, e2, _⟩ := h.box j' T cs hj' h3 hb'
                  rw [e1, ptr_block] at hg'
                  cases hg'
                  exact .inl e2
          · rcases hlist j hjl with h1 | h1
            · exact absurd h1 e
            · obtain ⟨lo, hi2, ha, hr⟩ := h.part j R hj h1 hs
              refine ⟨lo, hi2, haway lo hi2 ha, ?_⟩
              simp only [if_neg e]
              have hst := hL.steady j hj
              rw [hs] at hst
              refine hst lo hi2 W W' _ h.but (hbut.into' fun m ⟨j', k', C, hs', hm'⟩ => ?_) hr
              obtain ⟨g, e1, e2, e3, e4, e5, e6⟩ := hfb j' k' C hs'
              rw [e1, ptr_block] at hm'
              cases hm'
              exact ⟨e2, ha.2 j' _ e6 e4 e5 (by rw [e1]; rfl)⟩
        · by_cases e : j = i
          · subst e
            rw [hs] at hg
            obtain ⟨hsi, hu, hk⟩ := hg
            exact ⟨W.heap.size, by simpa using hu, h.but.size, Blk.lt hk, fun _ => hk⟩
          · rcases hlist j hjl with h1 | h1
            · exact absurd h1 e
            · obtain ⟨g, e1, e2, e3, e4⟩ := h.box j T cs hj h1 hs
              refine ⟨g, by rw [hvs j e]; exact e1, e2, Nat.lt_of_lt_of_le e3 hbut.size, fun hno => ?_⟩
              have hk := e4 fun i' k C hi' hs' => by
                have := hno i' k C hi' hs'
                by_cases e' : i' = i
                · subst e'; exact hiu
                · rwa [getD_set_ne false (Ne.symm e')] at this
              refine (hbut.block g e3 fun ⟨j', k', C, hs', hm'⟩ => ?_).trans hk
              by_cases ej : j' = j
              · subst ej
                have := hno i k' C hiN hs'
                rw [getD_set_eq false hils] at this
                cases this
              · obtain ⟨g', f1, _, _, f4, f5, f6⟩ := hfb j' k' C hs'
                exact h.apart j' j f6 hj ej f4 h1 f5 (by rw [hs]; rfl) (by rw [hm', e1]; rfl)
        · by_cases e : i' = i
          · subst e
            obtain ⟨f1, f2, _, _, _⟩ := hL.fills i' j k C hiN hs
            rw [hs] at hg
            simp only [if_pos, if_neg (show j ≠ i' by omega), if_neg (show k ≠ i' by omega)]
            exact ⟨hg.2.1, hg.2.2⟩
          · rcases hlist i' hil with h1 | h1
            · exact absurd h1 e
            · obtain ⟨f1, f2, f3, f4, f5⟩ := hL.fills i' j k C hi' hs
              have lw : ∀ j, waitsB ops i' j = true → listed.getD j false = true := fun j hw => by
                obtain ⟨o', ho', e, he, hb, hon⟩ := Region.waitsFor_spec hw
                have := h.inv.closed i' o' ho' h1 e he hb
                rwa [hon] at this
              have n1 := hold j (lw j f4)
              have n2 := hold k (lw k f5)
              obtain ⟨g1, g2⟩ := h.fill i' j k C hi' h1 hs
              simp only [if_neg e, if_neg n1, if_neg n2]
              refine ⟨g1, ?_⟩
              obtain ⟨T, cs, hbx⟩ := Lz.box_of f3
              obtain ⟨gb, e1, e2, e3, _⟩ := h.box j T cs (by omega) (lw j f4) hbx
              have hst := hL.steady i' hi'
              rw [hs] at hst
              refine hst W W' (vs j) (vs k) gb (by rw [e1]; rfl) e3 (hbut.into' fun m ⟨j', k', C', hs', hm'⟩ => ?_) g2
              obtain ⟨g', p1, p2, _, p4, p5, p6⟩ := hfb j' k' C' hs'
              rw [p1, ptr_block] at hm'
              cases hm'
              refine ⟨p2, fun eg => ?_⟩
              subst eg
              have hjj : j' ≠ j := fun ej => by subst ej; exact e (hL.one i' i j' k C k' C' hi' hiN hs hs')
              exact h.apart j' j p6 (by omega) hjj p4 (lw j f4) p5 f3 (by rw [p1, e1])
        · have hlow : ∀ k, k < N → k ≠ i → (listed.setIfInBounds i true).getD k false = true → (S k).isBox = true → ∃ g, vs k = ptr g ∧ g < W.heap.size := fun k hk hki hkl hbk => by
            rcases hlist k hkl with h1 | h1
            · exact absurd h1 hki
            · obtain ⟨T, cs, hs⟩ := Lz.box_of hbk
              obtain ⟨g, e1, _, e3, _⟩ := h.box k T cs hk h1 hs
              exact ⟨g, e1, e3⟩
          by_cases e1 : j = i
          · have e2 : k ≠ i := fun e2 => hne (e1.trans e2.symm)
            simp only [if_pos e1, if_neg e2]
            obtain ⟨g, q1, q2⟩ := hlow k hk e2 hkl hbk
            rw [(hbi (by rw [← e1]; exact hbj)).1, q1, ptr_block, ptr_block]
            intro he; injection he with he; omega
          · by_cases e2 : k = i
            · simp only [if_neg e1, if_pos e2]
              obtain ⟨g, q1, q2⟩ := hlow j hj e1 hjl hbj
              rw [(hbi (by rw [← e2]; exact hbk)).1, q1, ptr_block, ptr_block]
              intro he; injection he with he; omega
            · simp only [if_neg e1, if_neg e2]
              rcases hlist j hjl with h1 | h1
              · exact absurd h1 e1
              · rcases hlist k hkl with h2 | h2
                · exact absurd h2 e2
                · exact h.apart j k hj hk hne h1 h2 hbj hbk
        · by_cases e : j = i
          · subst e
            rw [hdo] at hd
            rw [hd, put_same _ _ _ (by rw [h.tsize]; exact htl), if_pos rfl, hput]
          · rw [if_neg e, put_other _ _ _ _ (fun he => e (hdst j i t hj hiN hd (by rw [hdo]; exact he)))]
            rcases hlist j hjl with h1 | h1
            · exact absurd h1 e
            · exact h.hit j t hj h1 hd htl
        · rw [put_other _ _ _ _ (fun he => hno i hiN (getD_set_eq false hils) (by rw [hdo]; exact he))]
          refine h.miss t fun j hj hjl => ?_
          by_cases e : j = i
          · subst e; rw [hiu] at hjl; cases hjl
          · exact hno j hj (by rw [getD_set_ne false (Ne.symm e)]; exact hjl)
      unfold wpOp
      simp only [ho]
      rcases hL.run i o hiN ho with ⟨hw, hrun⟩ | ⟨hw, hund⟩
      · rw [if_pos (by rw [hwa]; exact hw vs)]
        refine .inl (wp_of_z (s := S i) (vs := vs) (Good := Away S N listed vs W) ?_ hnext)
        rw [hex]
        refine hrun vs W _ h.but (fun e he hb hlt => ?_) (fun j k C hs T cs hbx => ?_)
        · have hl := hall e he hb
          cases hs : S e.on with
          | val v => exact h.val _ v (by omega) hl hs
          | part R => exact h.part _ R (by omega) hl hs
          | box T cs => obtain ⟨g, e1, e2, e3, _⟩ := h.box _ T cs (by omega) hl hs; exact ⟨g, e1, e2, e3⟩
          | fill j k C => exact (h.fill _ j k C (by omega) hl hs).1
        · obtain ⟨h1, _, _, h4, _⟩ := hL.fills i j k C hiN hs
          obtain ⟨g, e1, _, _, e4⟩ := h.box j T cs (by omega) (waited j h4) hbx
          exact ⟨g, e1, e4 fun i' k' C' hi' hs' => by have := hL.one i' i j k' C' k C hi' hiN hs' hs; subst this; exact hiu⟩
      · rw [if_neg (by rw [hwa, hw vs]; exact Bool.false_ne_true)]
        exact hnext undef W (by rw [hund]; exact ⟨But.refl _ _, rfl⟩)

theorem wp_region_z {id : Nat} {Q : Exit → Act → World → Prop} (hm : P.follows .mixedOrders = true) (hB : looseB ops N = true) (hL : Laz P ops N a w S)
    (hQ : ∀ vs W, Since w W → Fin S N vs W → wpList P ops Q (ops.toList.drop N) (lay ops a (fun j => (S j).toL) vs N) W) : (Code.region id ops true).wp P Q a w := by
  obtain ⟨_, hN, _, _, _, _⟩ := looseB_parts hB
  refine wp_region_any hm ?_
  have hz : togo (Array.replicate ops.size false) N = N := by
    unfold togo
    rw [List.filter_eq_self.2, List.length_range]
    intro j _
    rw [getD_replicate_false]; rfl
  have no : ∀ j, ¬ (Array.replicate ops.size false).getD j false = true := fun j hl => by rw [getD_replicate_false] at hl; cases hl
  have := waz_go hB hL hQ N (Array.replicate ops.size false) (fun _ => undef) a { w with drawn := w.drawn + 1 } hz
    ⟨⟨by simp, fun j oj _ hl => absurd hl (no j), fun t _ ht => getD_in (by simpa using ht) (getD_replicate_false _ _)⟩, (But.refl nil_ w).drew, fun j v _ hl => absurd hl (no j), fun j R _ hl => absurd hl (no j), fun j T cs _ hl => absurd hl (no j), fun i j k C _ hl => absurd hl (no i), fun j k _ _ _ hl => absurd hl (no j), rfl, rfl, fun j t _ hl => absurd hl (no j), fun t _ => rfl⟩
  rwa [show N + (ops.size - N) = ops.size by omega] at this
end
end Go.Proofs.Ytndohmimcbmhdaa

/- The same, told one by one. -/
set_option linter.unusedVariables false
set_option linter.unusedSimpArgs false
namespace Go.Proofs.Ytndohmimcbmhdaa
open Go.RowKit

def noFill (j : Nat) : Lz → Bool | .fill j' _ _ => decide (j' ≠ j) | _ => true
def mayFill (ops : Array Oper) (i : Nat) (sp : List Lz) (s : Lz) : Bool := match s with
  | .fill j k _ => (decide (j < sp.length) && decide (k < sp.length)) && ((match sp[j]? with | some x => x.isBox | none => false) && (sp.all (noFill j) && (waitsB ops i j && waitsB ops i k)))
  | _ => true
def zTold (P : Program) (ops : Array Oper) (w : World) (Q : List Lz → ((Nat → Value) → Act) → Prop) : Nat → List Oper → List Lz → ((Nat → Value) → Act) → Prop
  | _, [], sp, G => Q sp G
  | i, o :: rest, sp, G =>
    ((∀ vs, Region.wanted o (yielded ops (G vs).tmps) = true) ∧ ∃ s : Lz, s.steady w ∧ mayFill ops i sp s = true ∧
      (∀ vs W Good, Since w W → (∀ e ∈ o.after, Region.binds .any e = true → ∀ s', sp[e.on]? = some s' → depOk s' Good w W (vs e.on)) → (∀ j k C, s = .fill j k C → ∀ T cs, sp[j]? = some (.box T cs) → ∃ b, vs j = ptr b ∧ Blk W b T cs) →
        zUpon P s vs Good W ((execOp (G vs).eval o).run P W)) ∧
      zTold P ops w Q (i + 1) rest (sp ++ [s]) (fun vs => (G vs).put o.dst (s.toL.at (vs i)))) ∨
    ((∀ vs, Region.wanted o (yielded ops (G vs).tmps) = false) ∧ zTold P ops w Q (i + 1) rest (sp ++ [.val undef]) (fun vs => (G vs).put o.dst undef))
def listZ (sp : List Lz) : Nat → Lz := fun j => sp.getD j (.val undef)

theorem laz_of_told {P : Program} {ops : Array Oper} {w : World} {a : Act} {Q : List Lz → ((Nat → Value) → Act) → Prop} : ∀ (rest : List Oper) (sp : List Lz) (G : (Nat → Value) → Act),
    (∀ j, rest[j]? = if j < rest.length then ops[sp.length + j]? else none) → (∀ j, j < sp.length → (listZ sp j).steady w) →
    (∀ i j k C, i < sp.length → listZ sp i = .fill j k C → j < i ∧ k < i ∧ (listZ sp j).isBox = true ∧ waitsB ops i j = true ∧ waitsB ops i k = true) →
    (∀ i i' j k C k' C', i < sp.length → i' < sp.length → listZ sp i = .fill j k C → listZ sp i' = .fill j k' C' → i = i') → (∀ vs, G vs = lay ops a (fun j => (listZ sp j).toL) vs sp.length) →
    (∀ i o, i < sp.length → ops[i]? = some o →
      ((∀ vs, Region.wanted o (yielded ops (lay ops a (fun j => (listZ sp j).toL) vs i).tmps) = true) ∧ (∀ vs W Good, Since w W → (∀ e ∈ o.after, Region.binds .any e = true → e.on < i → depOk (listZ sp e.on) Good w W (vs e.on)) →
        (∀ j k C, listZ sp i = .fill j k C → ∀ T cs, listZ sp j = .box T cs → ∃ b, vs j = ptr b ∧ Blk W b T cs) → zUpon P (listZ sp i) vs Good W ((execOp (lay ops a (fun j => (listZ sp j).toL) vs i).eval o).run P W))) ∨
      ((∀ vs, Region.wanted o (yielded ops (lay ops a (fun j => (listZ sp j).toL) vs i).tmps) = false) ∧ listZ sp i = .val undef)) →
    zTold P ops w Q sp.length rest sp G → ∃ sp' G', Laz P ops (sp.length + rest.length) a w (listZ sp') ∧ sp'.length = sp.length + rest.length ∧ (∀ vs, G' vs = lay ops a (fun j => (listZ sp' j).toL) vs sp'.length) ∧ Q sp' G' := by
  intro rest
  induction rest with
  | nil =>
    intro sp G _ hst hfl hon hG hrun h
    exact ⟨sp, G, ⟨fun i o hi ho => hrun i o (by simpa using hi) ho, fun i hi => hst i (by simpa using hi), fun i j k C hi => hfl i j k C (by simpa using hi), fun i i' j k C k' C' hi hi' => hon i i' j k C k' C' (by simpa using hi) (by simpa using hi')⟩, by simp, hG, h⟩
  | cons o rest ih =>
    intro sp G hl hst hfl hon hG hrun h
    have ho : ops[sp.length]? = some o := by have := hl 0; simpa using this.symm
    have hl' : ∀ x : Lz, ∀ j, rest[j]? = if j < rest.length then ops[(sp ++ [x]).length + j]? else none := fun x j => by
      have := hl (j + 1)
      simp only [List.getElem?_cons_succ, List.length_cons, Nat.add_lt_add_iff_right] at this
      rw [this]
      split
      · congr 1; simp; omega
      · rfl
    have hat : ∀ x : Lz, ∀ j, j < sp.length → listZ (sp ++ [x]) j = listZ sp j := fun x j hj => by simp [listZ, List.getElem?_append_left hj]
    have hend : ∀ x : Lz, listZ (sp ++ [x]) sp.length = x := fun x => by simp [listZ]
    have hin : ∀ j s, sp[j]? = some s → listZ sp j = s := fun j s h => by simp [listZ, h]
    have key : ∀ x : Lz, x.steady w → mayFill ops sp.length sp x = true →
        (((∀ vs, Region.wanted o (yielded ops (G vs).tmps) = true) ∧ (∀ vs W Good, Since w W → (∀ e ∈ o.after, Region.binds .any e = true → ∀ s', sp[e.on]? = some s' → depOk s' Good w W (vs e.on)) → (∀ j k C, x = .fill j k C → ∀ T cs, sp[j]? = some (.box T cs) → ∃ b, vs j = ptr b ∧ Blk W b T cs) →
          zUpon P x vs Good W ((execOp (G vs).eval o).run P W))) ∨ ((∀ vs, Region.wanted o (yielded ops (G vs).tmps) = false) ∧ x = .val undef)) →
        zTold P ops w Q (sp.length + 1) rest (sp ++ [x]) (fun vs => (G vs).put o.dst (x.toL.at (vs sp.length))) →
        ∃ sp' G', Laz P ops (sp.length + (o :: rest).length) a w (listZ sp') ∧ sp'.length = sp.length + (o :: rest).length ∧ (∀ vs, G' vs = lay ops a (fun j => (listZ sp' j).toL) vs sp'.length) ∧ Q sp' G' := by
      intro x hx hxf hr hn
      have hlen : (sp ++ [x]).length = sp.length + 1 := by simp
      have hxfill : ∀ j k C, x = .fill j k C → j < sp.length ∧ k < sp.length ∧ (listZ sp j).isBox = true ∧ (∀ y ∈ sp, noFill j y = true) ∧ waitsB ops sp.length j = true ∧ waitsB ops sp.length k = true := fun j k C e => by
        subst e
        simp only [mayFill, Bool.and_eq_true, decide_eq_true_eq] at hxf
        obtain ⟨⟨h1, h2⟩, h3, h4, h5, h6⟩ := hxf
        refine ⟨h1, h2, ?_, fun y hy => List.all_eq_true.1 h4 y hy, h5, h6⟩
        have : sp[j]? = some (listZ sp j) := by simp [listZ, List.getElem?_eq_getElem h1]
        rw [this] at h3
        exact h3
      have hcong : ∀ vs i, i ≤ sp.length → lay ops a (fun j => (listZ (sp ++ [x]) j).toL) vs i = lay ops a (fun j => (listZ sp j).toL) vs i := fun vs i hi => lay_congr i fun j hj => by rw [hat x j (by omega)]
      have := ih (sp ++ [x]) (fun vs => (G vs).put o.dst (x.toL.at (vs sp.length))) (hl' x) (fun j hj => by
          by_cases e : j = sp.length
          · subst e; rw [hend]; exact hx
          · rw [hat x j (by rw [hlen] at hj; omega)]; exact hst j (by rw [hlen] at hj; omega))
        (fun i j k C hi hs => by
          rw [hlen] at hi
          by_cases e : i = sp.length
          · subst e
            rw [hend] at hs
            obtain ⟨h1, h2, h3, _, h5, h6⟩ := hxfill j k C hs
            exact ⟨h1, h2, by rw [hat x j h1]; exact h3, h5, h6⟩
          · rw [hat x i (by omega)] at hs
            obtain ⟨h1, h2, h3, h4, h5⟩ := hfl i j k C (by omega) hs
            exact ⟨h1, h2, by rw [hat x j (by omega)]; exact h3, h4, h5⟩)
        (fun i i' j k C k' C' hi hi' hs hs' => by
          rw [hlen] at hi hi'
          have clash : ∀ i k C k' C', i < sp.length → listZ sp i = .fill j k C → x = .fill j k' C' → False := fun i k C k' C' h1 h2 h3 => by
            have hm : listZ sp i ∈ sp := by
              have : sp[i]? = some (listZ sp i) := by simp [listZ, List.getElem?_eq_getElem h1]
              exact List.mem_of_getElem? this
            have := (hxfill j k' C' h3).2.2.2.1 _ hm
            rw [h2] at this
            simp [noFill] at this
          by_cases e : i = sp.length
          · by_cases e' : i' = sp.length
            · omega
            · subst e
              rw [hend] at hs
              rw [hat x i' (by omega)] at hs'
              exact (clash i' k' C' k C (by omega) hs' hs).elim
          · by_cases e' : i' = sp.length
            · subst e'
              rw [hend] at hs'
              rw [hat x i (by omega)] at hs
              exact (clash i k C k' C' (by omega) hs hs').elim
            · rw [hat x i (by omega)] at hs
              rw [hat x i' (by omega)] at hs'
              exact hon i i' j k C k' C' (by omega) (by omega) hs hs')
        (fun vs => by
          rw [hlen, lay, hend, hcong vs _ (Nat.le_refl _), ← hG vs]
          simp [dstOf, ho])
        (fun i o' hi ho' => by
          rw [hlen] at hi
          by_cases e : i = sp.length
          · subst e
            obtain rfl : o = o' := Option.some.inj (ho.symm.trans ho')
            have hg : ∀ vs, lay ops a (fun j => (listZ (sp ++ [x]) j).toL) vs sp.length = G vs := fun vs => by rw [hcong vs _ (Nat.le_refl _), ← hG vs]
            rw [hend]
            rcases hr with ⟨h1, h2⟩ | ⟨h1, h2⟩
            · refine .inl ⟨fun vs => by rw [hg]; exact h1 vs, fun vs W Good hW hd hbx => ?_⟩
              rw [hg]
              refine h2 vs W Good hW (fun e he hb s' hs' => ?_) (fun j k C hs T cs hs' => ?_)
              · have hlt : e.on < sp.length := (List.getElem?_eq_some_iff.1 hs').1
                have := hd e he hb hlt
                rw [hat x _ hlt, hin _ _ hs'] at this
                exact this
              · have hlt : j < sp.length := (List.getElem?_eq_some_iff.1 hs').1
                exact hbx j k C hs T cs (by rw [hat x _ hlt, hin _ _ hs'])
            · exact .inr ⟨fun vs => by rw [hg]; exact h1 vs, h2⟩
          · have hi' : i < sp.length := by omega
            rw [hat x i hi']
            rcases hrun i o' hi' ho' with ⟨h1, h2⟩ | ⟨h1, h2⟩
            · refine .inl ⟨fun vs => by rw [hcong vs i (by omega)]; exact h1 vs, fun vs W Good hW hd hbx => ?_⟩
              rw [hcong vs i (by omega)]
              refine h2 vs W Good hW (fun e he hb hlt => by have := hd e he hb hlt; rw [hat x _ (by omega)] at this; exact this) (fun j k C hs T cs hs' => ?_)
              have hlt : j < sp.length := by have := (hfl i j k C hi' hs).1; omega
              exact hbx j k C hs T cs (by rw [hat x _ hlt]; exact hs')
            · exact .inr ⟨fun vs => by rw [hcong vs i (by omega)]; exact h1 vs, h2⟩)
        (by rw [hlen]; exact hn)
      obtain ⟨sp', G', h1, h2, h3, h4⟩ := this
      have e : (sp ++ [x]).length + rest.length = sp.length + (o :: rest).length := by simp; omega
      rw [e] at h1 h2
      exact ⟨sp', G', h1, h2, h3, h4⟩
    rcases h with ⟨hw, s, hs, hso, hr, hn⟩ | ⟨hw, hn⟩
    · exact key s hs hso (.inl ⟨hw, hr⟩) hn
    · exact key (.val undef) trivial rfl (.inr ⟨hw, rfl⟩) hn

/-- **A drawn region that makes variables, told one by one.** -/
theorem wp_region_toldz {P : Program} {id : Nat} {Q : Exit → Act → World → Prop} {a : Act} {w : World} {l : List Oper} (N : Nat) (hm : P.follows .mixedOrders = true) (hB : looseB l.toArray N = true)
    (h : zTold P l.toArray w (fun sp G => ∀ vs W, Since w W → (∀ (j : Nat) v, sp[j]? = some (.val v) → vs j = v) → (∀ (j : Nat) R, sp[j]? = some (.part R) → ∃ lo hi, R lo hi W (vs j)) → (∀ (j : Nat) T cs, sp[j]? = some (.box T cs) → ∃ g, vs j = ptr g ∧ g < W.heap.size) → (∀ (i j k : Nat) C, sp[i]? = some (.fill j k C) → C W (vs j) (vs k)) → wpList P l.toArray Q (l.drop N) (G vs) W) 0 (l.take N) [] (fun _ => a)) : (Code.region id l.toArray true).wp P Q a w := by
  obtain ⟨_, hN, _⟩ := looseB_parts hB
  have hN' : N ≤ l.length := by simpa using hN
  obtain ⟨sp, G, hL, hlen, hG, hQ⟩ := laz_of_told (a := a) (l.take N) [] (fun _ => a) (fun j => by
      simp only [List.length_nil, Nat.zero_add, List.length_take, List.getElem?_toArray]
      by_cases h : j < N
      · rw [List.getElem?_take_of_lt h]
        split
        · rfl
        · rw [List.getElem?_eq_none (by omega)]
      · rw [List.getElem?_eq_none (by simp; omega), if_neg (by omega)]) (fun j hj => absurd hj (by simp)) (fun i j k C hi => absurd hi (by simp)) (fun i i' j k C k' C' hi => absurd hi (by simp)) (fun vs => rfl) (fun i o hi => absurd hi (by simp)) h
  have e : ([] : List Lz).length + (l.take N).length = N := by simp; omega
  rw [e] at hL hlen
  refine wp_region_z hm hB hL fun vs W hW ⟨f1, f2, f3, f4⟩ => ?_
  have lt : ∀ j s, sp[j]? = some s → j < N ∧ listZ sp j = s := fun j s hs => ⟨by have := (List.getElem?_eq_some_iff.1 hs).1; omega, by simp [listZ, hs]⟩
  have := hQ vs W hW (fun j v hs => f1 j v (lt j _ hs).1 (lt j _ hs).2) (fun j R hs => f2 j R (lt j _ hs).1 (lt j _ hs).2) (fun j T cs hs => f3 j T cs (lt j _ hs).1 (lt j _ hs).2) (fun i j k C hs => f4 i j k C (lt i _ hs).1 (lt i _ hs).2)
  rw [hG vs, hlen] at this
  exact this

section
variable {P : Program} {ops : Array Oper} {w : World} {Q : List Lz → ((Nat → Value) → Act) → Prop} {i : Nat} {o : Oper} {rest : List Oper} {sp : List Lz} {G : (Nat → Value) → Act}
theorem z_nil (h : Q sp G) : zTold P ops w Q i [] sp G := h
theorem z_off (hw : ∀ vs, Region.wanted o (yielded ops (G vs).tmps) = false) (h : zTold P ops w Q (i + 1) rest (sp ++ [.val undef]) (fun vs => (G vs).put o.dst undef)) : zTold P ops w Q i (o :: rest) sp G := .inr ⟨hw, h⟩
/-- A value, as the elder law shows it. -/
theorem z_val {v : Value} (hw : ∀ vs, Region.wanted o (yielded ops (G vs).tmps) = true) (hr : ∀ vs W, Since w W → looseUpon P nil_ (.val v) W ((execOp (G vs).eval o).run P W))
    (h : zTold P ops w Q (i + 1) rest (sp ++ [.val v]) (fun vs => (G vs).put o.dst v)) : zTold P ops w Q i (o :: rest) sp G := by
  refine .inl ⟨hw, .val v, trivial, rfl, fun vs W Good hW _ _ => ?_, h⟩
  have := hr vs W hW
  revert this
  generalize (execOp (G vs).eval o).run P W = r
  intro this
  cases r with
  | ok n W' =>
    cases n <;> simp only [looseUpon] at this <;> simp only [zUpon]
    case value u => exact ⟨this.1, this.2.1⟩
    case skip => exact ⟨this.1, this.2.1⟩
    case enter f args => exact this.mono fun e W'' ⟨u, he, h1, h2, _⟩ => ⟨u, he, h1, h2⟩
  | halt x W' => simp only [looseUpon] at this
/-- A value, from what it waits for. -/
theorem z_val' {v : Value} (hw : ∀ vs, Region.wanted o (yielded ops (G vs).tmps) = true)
    (hr : ∀ vs W Good, Since w W → (∀ e ∈ o.after, Region.binds .any e = true → ∀ s', sp[e.on]? = some s' → depOk s' Good w W (vs e.on)) → zUpon P (.val v) vs Good W ((execOp (G vs).eval o).run P W))
    (h : zTold P ops w Q (i + 1) rest (sp ++ [.val v]) (fun vs => (G vs).put o.dst v)) : zTold P ops w Q i (o :: rest) sp G :=
  .inl ⟨hw, .val v, trivial, rfl, fun vs W Good hW hd _ => hr vs W Good hW hd, h⟩
theorem z_part (R : Nat → Nat → World → Value → Prop) (hs : (Lz.part R).steady w) (hw : ∀ vs, Region.wanted o (yielded ops (G vs).tmps) = true)
    (hr : ∀ vs W Good, Since w W → (∀ e ∈ o.after, Region.binds .any e = true → ∀ s', sp[e.on]? = some s' → depOk s' Good w W (vs e.on)) → zUpon P (.part R) vs Good W ((execOp (G vs).eval o).run P W))
    (h : zTold P ops w Q (i + 1) rest (sp ++ [.part R]) (fun vs => (G vs).put o.dst (vs i))) : zTold P ops w Q i (o :: rest) sp G :=
  .inl ⟨hw, .part R, hs, rfl, fun vs W Good hW hd _ => hr vs W Good hW hd, h⟩
theorem z_box (T : TypeId) (cs : Array Value) (hw : ∀ vs, Region.wanted o (yielded ops (G vs).tmps) = true)
    (hr : ∀ vs W, Since w W → (execOp (G vs).eval o).run P W = .ok (.value (ptr W.heap.size)) (W.alloc (.cells cs T)))
    (h : zTold P ops w Q (i + 1) rest (sp ++ [.box T cs]) (fun vs => (G vs).put o.dst (vs i))) : zTold P ops w Q i (o :: rest) sp G :=
  .inl ⟨hw, .box T cs, trivial, rfl, fun vs W Good hW _ _ => by rw [hr vs W hW]; exact ⟨(But.refl _ _).alloc _, rfl, Blk.new W T cs⟩, h⟩
theorem z_fill (j k : Nat) (T : TypeId) (cs : Array Value) (C : World → Value → Value → Prop) (hj : sp[j]? = some (.box T cs)) (hs : (Lz.fill j k C).steady w) (hf : mayFill ops i sp (.fill j k C) = true) (hw : ∀ vs, Region.wanted o (yielded ops (G vs).tmps) = true)
    (hr : ∀ vs W Good, Since w W → (∀ e ∈ o.after, Region.binds .any e = true → ∀ s', sp[e.on]? = some s' → depOk s' Good w W (vs e.on)) → ∀ g, vs j = ptr g → Blk W g T cs → ∃ W', (execOp (G vs).eval o).run P W = .ok .skip W' ∧ But (fun m => m = g) W W' ∧ C W' (vs j) (vs k))
    (h : zTold P ops w Q (i + 1) rest (sp ++ [.fill j k C]) (fun vs => (G vs).put o.dst undef)) : zTold P ops w Q i (o :: rest) sp G :=
  .inl ⟨hw, .fill j k C, hs, hf, fun vs W Good hW hd hb => by
    obtain ⟨g, e, hk⟩ := hb j k C rfl T cs hj
    obtain ⟨W', hrun, hbut, hc⟩ := hr vs W Good hW hd g e hk
    rw [hrun]
    exact ⟨hbut.into' fun m hm => by rw [e, ptr_block, hm], rfl, hc⟩, h⟩
end
end Go.Proofs.Ytndohmimcbmhdaa
