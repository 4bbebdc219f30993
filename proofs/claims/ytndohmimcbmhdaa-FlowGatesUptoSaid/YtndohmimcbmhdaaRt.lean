/- label.Right; the document's Right, Set. -/
import Derived.Test.YtndohmimcbmhdaaTu
set_option linter.unusedVariables false
set_option linter.unusedSimpArgs false
namespace Go.Proofs.Ytndohmimcbmhdaa
open Go.RowKit Go.Sort

theorem turn47 (w : World) (d was now : Int) (A : Option Addr) (n c : Nat) (cs : List (Int × Int)) (h : CatsAt w w.heap.size A n c cs) (hn : n ≤ 8796093022208) :
    Calls Try.prog 47 #[.agg #[.int .i64 d, .slice A n c], .int .i64 was, .int .i64 now] w fun e w' => RetOwn (turnF was now d d) (formL (turnF was now d d) (mergeL (turnF was now) d cs d cs)) w e w' := by
  rw [← turnK_form]; exact turn47' w d was now A n c cs h hn

theorem CatsAt.since_ {w W : World} {A : Option Addr} {n c : Nat} {cs : List (Int × Int)} (h : CatsAt w w.heap.size A n c cs) (hW : Since w W) : CatsAt W W.heap.size A n c cs := (h.below (since_below hW (Nat.le_refl _))).more hW.size
def SlR (F : List (Int × Int)) (W : World) (v : Value) : Prop := ∃ A n c, v = .slice A n c ∧ CatsAt W W.heap.size A n c F
theorem SlR.stable {F : List (Int × Int)} {w : World} : (Leaves.rel (SlR F)).stable nil_ w := fun W W' u _ hb ⟨A, n, c, e, hT⟩ => ⟨A, n, c, e, (hT.below (since_below hb (Nat.le_refl _))).more hb.size⟩

def rightB (d : Int) (cs : List (Int × Int)) : Bool := decide (1 ≤ d ∧ d ≤ 4 ∧ cs.length ≤ 6) && (eqB cs (formL d cs) && !(cs.any oddC))

set_option maxHeartbeats 2000000 in
set_option maxRecDepth 100000 in
theorem right51 (w : World) (d : Int) (A : Option Addr) (n c : Nat) (cs : List (Int × Int)) (h : CatsAt w w.heap.size A n c cs) :
    Calls Try.prog 51 #[.agg #[.int .i64 d, .slice A n c]] w fun e w' => e = .returned (.bool (rightB d cs)) ∧ Below w.heap.size w w' := by
  have mixed : Try.prog.follows .mixedOrders = true := by kernel_rfl
  have HB : Hid (Below w.heap.size w (w.alloc (.cells #[.int .i64 d, .slice A n c] 26))) := (Below.refl _ w).alloc (Nat.le_refl _) _
  have HP1 : Hid (Blk (w.alloc (.cells #[.int .i64 d, .slice A n c] 26)) w.heap.size 26 #[.int .i64 d, .slice A n c]) := Blk.new w 26 _
  have HC := hid ((h.below HB.out).more HB.out.size)
  have HLN := hid h.len
  have HR : Hid (rightB d cs = (decide (1 ≤ d ∧ d ≤ 4 ∧ cs.length ≤ 6) && (eqB cs (formL d cs) && !(cs.any oddC)))) := rfl
  clear h
  by_cases h1 : d < 1
  · have HE : Hid (rightB d cs = false) := by
      show _ = _
      rw [HR.out, decide_eq_false (by omega), Bool.false_and]
    go_enter Try.func51, Try.ntmps51
    go_wp2_with fail
    generalize w.alloc (.cells #[.int .i64 d, .slice A n c] 26) = wa at *
    have HF : Hid (∀ W, But nil_ wa W → W.cell? ⟨w.heap.size, 0, none⟩ = some (.int .i64 d) ∧ W.cell? ⟨w.heap.size, 1, none⟩ = some (.slice A n c)) := by
      intro W hW
      have r := hW.blk HP1.out (fun h => h)
      exact ⟨(Blk.cell r 0).trans rfl, (Blk.cell r 1).trans rfl⟩
    refine wp_region_told 26 nil_ mixed (by kernel_rfl) ?_
    simp only [List.take_succ_cons, List.take_zero, List.drop_succ_cons, List.drop_zero]
    repeat (first | (refine told_off (fun _ => rfl) ?_; simp only [Act.put, List.setIfInBounds_toArray, List.set_cons_zero, List.set_cons_succ, List.nil_append, List.cons_append, Nat.reduceAdd, Leaves.at]) | (refine told_val (v := ?_) (fun _ => rfl) (fun vs W hW => ?_) ?_; rotate_left; (focus (have hf := HF.out W hW; clear hW; go_simp; exact loose_val)); simp only [Act.put, List.setIfInBounds_toArray, List.set_cons_zero, List.set_cons_succ, List.nil_append, List.cons_append, Nat.reduceAdd, Leaves.at]))
    refine told_nil ?_
    intro vs W hW hok hap
    clear hap
    dsimp only
    have HB2 := hid (HB.out.trans (since_below hW HB.out.size))
    clear hok hW
    go_wp2_with fail
    go_ret
    exact ⟨by rw [HE.out]; rfl, HB2.out⟩
  · have b1 : decide (d < 1) = false := decide_eq_false h1
    by_cases h2 : 4 < d
    · have HE : Hid (rightB d cs = false) := by
        show _ = _
        rw [HR.out, decide_eq_false (by omega), Bool.false_and]
      go_enter Try.func51, Try.ntmps51
      go_wp2_with fail
      generalize w.alloc (.cells #[.int .i64 d, .slice A n c] 26) = wa at *
      have HF : Hid (∀ W, But nil_ wa W → W.cell? ⟨w.heap.size, 0, none⟩ = some (.int .i64 d) ∧ W.cell? ⟨w.heap.size, 1, none⟩ = some (.slice A n c)) := by
        intro W hW
        have r := hW.blk HP1.out (fun h => h)
        exact ⟨(Blk.cell r 0).trans rfl, (Blk.cell r 1).trans rfl⟩
      refine wp_region_told 26 nil_ mixed (by kernel_rfl) ?_
      simp only [List.take_succ_cons, List.take_zero, List.drop_succ_cons, List.drop_zero]
      repeat (first | (refine told_off (fun _ => rfl) ?_; simp only [Act.put, List.setIfInBounds_toArray, List.set_cons_zero, List.set_cons_succ, List.nil_append, List.cons_append, Nat.reduceAdd, Leaves.at]) | (refine told_val (v := ?_) (fun _ => rfl) (fun vs W hW => ?_) ?_; rotate_left; (focus (have hf := HF.out W hW; clear hW; go_simp; exact loose_val)); simp only [Act.put, List.setIfInBounds_toArray, List.set_cons_zero, List.set_cons_succ, List.nil_append, List.cons_append, Nat.reduceAdd, Leaves.at]))
      refine told_nil ?_
      intro vs W hW hok hap
      clear hap
      dsimp only
      have HB2 := hid (HB.out.trans (since_below hW HB.out.size))
      clear hok hW
      go_wp2_with fail
      go_ret
      exact ⟨by rw [HE.out]; rfl, HB2.out⟩
    · have b2 : decide (4 < d) = false := decide_eq_false h2
      by_cases h3 : 6 < n
      · have HE : Hid (rightB d cs = false) := by
          show _ = _
          rw [HR.out, decide_eq_false (by rw [HLN.out]; omega), Bool.false_and]
        have h4 : (6 : Int) < (n : Int) := by omega
        go_enter Try.func51, Try.ntmps51
        go_wp2_with fail
        generalize w.alloc (.cells #[.int .i64 d, .slice A n c] 26) = wa at *
        have HF : Hid (∀ W, But nil_ wa W → W.cell? ⟨w.heap.size, 0, none⟩ = some (.int .i64 d) ∧ W.cell? ⟨w.heap.size, 1, none⟩ = some (.slice A n c)) := by
          intro W hW
          have r := hW.blk HP1.out (fun h => h)
          exact ⟨(Blk.cell r 0).trans rfl, (Blk.cell r 1).trans rfl⟩
        refine wp_region_told 26 nil_ mixed (by kernel_rfl) ?_
        simp only [List.take_succ_cons, List.take_zero, List.drop_succ_cons, List.drop_zero]
        repeat (first | (refine told_off (fun _ => rfl) ?_; simp only [Act.put, List.setIfInBounds_toArray, List.set_cons_zero, List.set_cons_succ, List.nil_append, List.cons_append, Nat.reduceAdd, Leaves.at]) | (refine told_val (v := ?_) (fun _ => rfl) (fun vs W hW => ?_) ?_; rotate_left; (focus (have hf := HF.out W hW; clear hW; go_simp; exact loose_val)); simp only [Act.put, List.setIfInBounds_toArray, List.set_cons_zero, List.set_cons_succ, List.nil_append, List.cons_append, Nat.reduceAdd, Leaves.at]))
        refine told_nil ?_
        intro vs W hW hok hap
        clear hap
        dsimp only
        have HB2 := hid (HB.out.trans (since_below hW HB.out.size))
        clear hok hW
        go_wp2_with fail
        go_ret
        exact ⟨by rw [HE.out]; rfl, HB2.out⟩
      · have h4 : ¬ (6 : Int) < (n : Int) := by omega
        have b3 : decide ((6 : Int) < (n : Int)) = false := decide_eq_false h4
        have b4 : decide (6 < n) = false := decide_eq_false h3
        have HR2 : Hid (rightB d cs = (eqB cs (formL d cs) && !(cs.any oddC))) := by
          show _ = _
          rw [HR.out, decide_eq_true (by rw [HLN.out]; omega), Bool.true_and]
        generalize hF : formL d cs = F at *
        have HFF := hid hF
        clear hF HR
        go_enter Try.func51, Try.ntmps51
        go_wp2_with fail
        generalize w.alloc (.cells #[.int .i64 d, .slice A n c] 26) = wa at *
        have HF : Hid (∀ W, But nil_ wa W → W.cell? ⟨w.heap.size, 0, none⟩ = some (.int .i64 d) ∧ W.cell? ⟨w.heap.size, 1, none⟩ = some (.slice A n c)) := by
          intro W hW
          have r := hW.blk HP1.out (fun h => h)
          exact ⟨(Blk.cell r 0).trans rfl, (Blk.cell r 1).trans rfl⟩
        refine wp_region_told 26 nil_ mixed (by kernel_rfl) ?_
        simp only [List.take_succ_cons, List.take_zero, List.drop_succ_cons, List.drop_zero]
        repeat (first | (refine told_off (fun _ => rfl) ?_; simp only [Act.put, List.setIfInBounds_toArray, List.set_cons_zero, List.set_cons_succ, List.nil_append, List.cons_append, Nat.reduceAdd, Leaves.at]) | (refine told_val (v := ?_) (fun _ => rfl) (fun vs W hW => ?_) ?_; rotate_left; (focus (have hf := HF.out W hW; clear hW; go_simp; exact loose_val)); simp only [Act.put, List.setIfInBounds_toArray, List.set_cons_zero, List.set_cons_succ, List.nil_append, List.cons_append, Nat.reduceAdd, Leaves.at]))
        refine told_rel (LabR d F) LabR.stable (fun _ => rfl) (fun vs W hW hd => ?_) ?_
        · clear hd
          go_simp
          exact loose_callR (by rw [← HFF.out]; exact make34_l W d A n c cs (HC.out.since_ hW) (by omega))
        simp only [Act.put, List.setIfInBounds_toArray, List.set_cons_zero, List.set_cons_succ, List.nil_append, List.cons_append, Nat.reduceAdd, Leaves.at]
        refine told_rel (SlR F) SlR.stable (fun _ => rfl) (fun vs W hW hd => ?_) ?_
        · obtain ⟨A1, n1, c1, e1, hT1⟩ := hd ⟨21, .data⟩ (by simp) rfl _ rfl (fun h => by cases h)
          clear hd hW
          go_simp
          exact loose_rel (But.refl _ _) ⟨A1, n1, c1, rfl, hT1⟩
        simp only [Act.put, List.setIfInBounds_toArray, List.set_cons_zero, List.set_cons_succ, List.nil_append, List.cons_append, Nat.reduceAdd, Leaves.at]
        refine told_val' (v := .bool (eqB cs F)) (fun _ => rfl) (fun vs W hW hd => ?_) ?_
        · obtain ⟨A1, n1, c1, e1, hT1⟩ := hd ⟨22, .data⟩ (by simp) rfl _ rfl (fun h => by cases h)
          clear hd
          go_simp
          exact loose_call (equal108 W A A1 n c n1 c1 cs F (HC.out.since_ hW) hT1)
        simp only [Act.put, List.setIfInBounds_toArray, List.set_cons_zero, List.set_cons_succ, List.nil_append, List.cons_append, Nat.reduceAdd, Leaves.at]
        repeat (refine told_val (v := ?_) (fun _ => rfl) (fun vs W hW => ?_) ?_; rotate_left; (focus (have hf := HF.out W hW; clear hW; go_simp; exact loose_val)); simp only [Act.put, List.setIfInBounds_toArray, List.set_cons_zero, List.set_cons_succ, List.nil_append, List.cons_append, Nat.reduceAdd, Leaves.at])
        refine told_nil ?_
        intro vs W hW hok hap
        clear hap
        dsimp only
        have HB2 := hid (HB.out.trans (since_below hW HB.out.size))
        have HW := hid hW
        have HCW := hid (HC.out.since_ hW)
        obtain ⟨f1, f2⟩ := HF.out W hW
        clear hok hW
        generalize eqB cs F = q at *
        cases q with
        | false =>
          go_wp2_with fail
          go_ret
          exact ⟨by rw [HR2.out]; rfl, HB2.out⟩
        | true =>
          have HCF := hid (containsFunc102 W A n c cs 109 #[] oddC HCW.out (fun W' hW' x => (odd109 x W').mono fun e w' ⟨he, hb⟩ => ⟨he, hW'.trans (hb.mono hW'.size)⟩) eg109)
          generalize cs.any oddC = q2 at *
          go_wp2_with fail
          refine HCF.out.mono ?_
          rintro e w2 ⟨rfl, hb2⟩
          have HB3 := hid hb2
          clear hb2
          go_wp2_with fail
          go_ret
          exact ⟨by rw [HR2.out]; rfl, belowT HB2.out HB3.out⟩
end Go.Proofs.Ytndohmimcbmhdaa
