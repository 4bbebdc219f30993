/- The document's Leq. -/
import Derived.Test.YtndohmimcbmhdaaFm
set_option linter.unusedVariables false
set_option linter.unusedSimpArgs false
namespace Go.Proofs.Ytndohmimcbmhdaa
open Go.RowKit Go.Sort

theorem NumsAt.since {w W : World} {A : Option Addr} {n c : Nat} {l : List Int} (h : NumsAt w w.heap.size A n c l) (hW : Since w W) : NumsAt W W.heap.size A n c l := (h.below (since_below hW (Nat.le_refl _))).more hW.size

set_option maxHeartbeats 4000000 in
set_option maxRecDepth 100000 in
theorem leq41 (w : World) (d d' : Int) (A A' : Option Addr) (n c n' c' : Nat) (cs cs' : List (Int × Int)) (h : CatsAt w w.heap.size A n c cs) (h' : CatsAt w w.heap.size A' n' c' cs') (hn : n + n' ≤ 17592186044416) :
    Calls Try.prog 41 #[.agg #[.int .i64 d, .slice A n c], .agg #[.int .i64 d', .slice A' n' c']] w fun e w' => e = .returned (.bool (leqD d cs d' cs')) ∧ Below w.heap.size w w' := by
  have mixed : Try.prog.follows .mixedOrders = true := by kernel_rfl
  obtain ⟨q1, q2, q3⟩ := two_blk w #[.int .i64 d, .slice A n c] #[.int .i64 d', .slice A' n' c'] 26 26
  have HB := hid q1
  have HP1 := hid q2
  have HP2 := hid q3
  have HC := hid (h.below q1)
  have HC' := hid (h'.below q1)
  have HS : Hid (leqD d cs d' cs' = (decide (d ≤ d') && (idsL (cs ++ cs')).all fun id => decide (levelL d cs id ≤ levelL d' cs' id))) := rfl
  have hil := idsL_len (cs ++ cs')
  rw [List.length_append, h.len, h'.len] at hil
  clear h h' q1 q2 q3
  by_cases hd : d ≤ d'
  · have hd2 : ¬ d' < d := by omega
    go_enter Try.func41, Try.ntmps41
    go_wp2_with fail
    generalize (w.alloc (.cells #[.int .i64 d, .slice A n c] 26)).alloc (.cells #[.int .i64 d', .slice A' n' c'] 26) = wa at *
    refine (ids100 wa d d' A A' n c n' c' cs cs' (HC.out.more HB.out.size) (HC'.out.more HB.out.size) hn).mono ?_
    rintro e w1 ⟨v0, rfl, ho, hb1⟩
    generalize idsL (cs ++ cs') = ids at *
    obtain ⟨Ai, m, ci, rfl, hN⟩ := NumsAt.of_own ho
    have HN := hid hN
    have HML := hid hN.len
    have hm : m ≤ 17592186044416 := by have := hN.len; omega
    have HB1 := hid hb1
    have hs2 := hb1.size
    have hsa := HB.out.size
    clear ho hN hb1 hil
    go_wp2_with fail
    go_loopw [17] (fun vi wr => ∃ k : Nat, k ≤ m ∧ vi = .int .i64 k ∧ Hid (Since w1 wr) ∧ Hid (∀ (j : Nat) (x : Int), j < k → ids[j]? = some x → levelL d cs x ≤ levelL d' cs' x)) (fun vi _ => m - (intOf vi).toNat)
    case atStart => exact ⟨0, Nat.zero_le _, rfl, But.refl _ _, fun j x hj => absurd hj (by omega)⟩
    case round =>
      obtain ⟨k, hk, rfl, BW, AL⟩ := hrel
      have HBr := hid (HB1.out.trans (since_below BW.out hs2))
      have HBw := hid (HB.out.trans (HBr.out.mono hsa))
      by_cases hlt : k < m
      · have hltz : (k : Int) < (m : Int) := by omega
        obtain ⟨ad, x, rfl, had, hx, cx⟩ := (HN.out.since BW.out).at_ hlt
        have HX := hid hx
        have K1 := hid (HP1.out.below HBr.out HP1.out.lt)
        have K2 := hid (HP2.out.below HBr.out HP2.out.lt)
        have HF : Hid (∀ W, But nil_ wr W → (W.cell? ⟨w.heap.size, 0, none⟩ = some (.int .i64 d) ∧ W.cell? ⟨w.heap.size, 1, none⟩ = some (.slice A n c)) ∧ (W.cell? ⟨w.heap.size + 1, 0, none⟩ = some (.int .i64 d') ∧ W.cell? ⟨w.heap.size + 1, 1, none⟩ = some (.slice A' n' c'))) := by
          intro W hW
          have r := hW.blk K1.out (fun h => h)
          have r2 := hW.blk K2.out (fun h => h)
          exact ⟨⟨(Blk.cell r 0).trans rfl, (Blk.cell r 1).trans rfl⟩, (Blk.cell r2 0).trans rfl, (Blk.cell r2 1).trans rfl⟩
        have HL1 : Hid (∀ W, But nil_ wr W → Calls Try.prog 38 #[.agg #[.int .i64 d, .slice A n c], .int .u64 x] W fun e w' => e = .returned (.int .i64 (levelL d cs x)) ∧ Below W.heap.size W w') := by
          intro W hW
          have hb := HBr.out.trans (since_below hW HBr.out.size)
          exact level38_b W d A n c cs x ((HC.out.below (hb.mono hsa)).more (Nat.le_trans hsa hb.size))
        have HL2 : Hid (∀ W, But nil_ wr W → Calls Try.prog 38 #[.agg #[.int .i64 d', .slice A' n' c'], .int .u64 x] W fun e w' => e = .returned (.int .i64 (levelL d' cs' x)) ∧ Below W.heap.size W w') := by
          intro W hW
          have hb := HBr.out.trans (since_below hW HBr.out.size)
          exact level38_b W d' A' n' c' cs' x ((HC'.out.below (hb.mono hsa)).more (Nat.le_trans hsa hb.size))
        clear hx
        by_cases hq : levelL d cs x ≤ levelL d' cs' x
        · have hb : decide (levelL d' cs' x < levelL d cs x) = false := decide_eq_false (by omega)
          have HQ := hid hq
          clear hq
          go_wp2_with fail
          refine wp_region_told 7 nil_ mixed (by kernel_rfl) ?_
          simp only [List.take_succ_cons, List.take_zero, List.drop_succ_cons, List.drop_zero]
          repeat (refine told_val (v := ?_) (fun _ => rfl) (fun vs W hW => ?_) ?_; rotate_left; (focus (have hf := HF.out W hW; clear hW; go_simp; exact loose_val)); simp only [Act.put, List.setIfInBounds_toArray, List.set_cons_zero, List.set_cons_succ, List.nil_append, List.cons_append, Nat.reduceAdd, Leaves.at])
          refine told_val (v := .int .i64 (levelL d cs x)) (fun _ => rfl) (fun vs W hW => ?_) ?_
          · go_simp
            exact loose_call (HL1.out W hW)
          simp only [Act.put, List.setIfInBounds_toArray, List.set_cons_zero, List.set_cons_succ, List.nil_append, List.cons_append, Nat.reduceAdd, Leaves.at]
          repeat (refine told_val (v := ?_) (fun _ => rfl) (fun vs W hW => ?_) ?_; rotate_left; (focus (have hf := HF.out W hW; clear hW; go_simp; exact loose_val)); simp only [Act.put, List.setIfInBounds_toArray, List.set_cons_zero, List.set_cons_succ, List.nil_append, List.cons_append, Nat.reduceAdd, Leaves.at])
          refine told_val (v := .int .i64 (levelL d' cs' x)) (fun _ => rfl) (fun vs W hW => ?_) ?_
          · go_simp
            exact loose_call (HL2.out W hW)
          simp only [Act.put, List.setIfInBounds_toArray, List.set_cons_zero, List.set_cons_succ, List.nil_append, List.cons_append, Nat.reduceAdd, Leaves.at]
          repeat (refine told_val (v := ?_) (fun _ => rfl) (fun vs W hW => ?_) ?_; rotate_left; (focus (have hf := HF.out W hW; clear hW; go_simp; exact loose_val)); simp only [Act.put, List.setIfInBounds_toArray, List.set_cons_zero, List.set_cons_succ, List.nil_append, List.cons_append, Nat.reduceAdd, Leaves.at])
          refine told_nil ?_
          intro vs W hW hok hap
          clear hap
          dsimp only
          have HW := hid hW
          clear hok hW
          go_wp2_with fail
          go_roundw
          case measure => simp [intOf] <;> omega
          case rel =>
            refine ⟨k + 1, by omega, by go_num, BW.out.trans HW.out, (show Hid _ from fun j y hj hy => ?_)⟩
            by_cases e : j = k
            · subst e
              have := HX.out
              rw [hy] at this; cases this
              exact HQ.out
            · exact AL.out j y (by omega) hy
        · have hb : decide (levelL d' cs' x < levelL d cs x) = true := decide_eq_true (by omega)
          have HE : Hid (leqD d cs d' cs' = false) := by
            show _ = _
            rw [HS.out]
            have : (ids.all fun id => decide (levelL d cs id ≤ levelL d' cs' id)) = false := by
              rw [List.all_eq_false]
              exact ⟨x, List.mem_of_getElem? HX.out, by simpa using hq⟩
            rw [this, Bool.and_false]
          clear hq
          go_wp2_with fail
          refine wp_region_told 7 nil_ mixed (by kernel_rfl) ?_
          simp only [List.take_succ_cons, List.take_zero, List.drop_succ_cons, List.drop_zero]
          repeat (refine told_val (v := ?_) (fun _ => rfl) (fun vs W hW => ?_) ?_; rotate_left; (focus (have hf := HF.out W hW; clear hW; go_simp; exact loose_val)); simp only [Act.put, List.setIfInBounds_toArray, List.set_cons_zero, List.set_cons_succ, List.nil_append, List.cons_append, Nat.reduceAdd, Leaves.at])
          refine told_val (v := .int .i64 (levelL d cs x)) (fun _ => rfl) (fun vs W hW => ?_) ?_
          · go_simp
            exact loose_call (HL1.out W hW)
          simp only [Act.put, List.setIfInBounds_toArray, List.set_cons_zero, List.set_cons_succ, List.nil_append, List.cons_append, Nat.reduceAdd, Leaves.at]
          repeat (refine told_val (v := ?_) (fun _ => rfl) (fun vs W hW => ?_) ?_; rotate_left; (focus (have hf := HF.out W hW; clear hW; go_simp; exact loose_val)); simp only [Act.put, List.setIfInBounds_toArray, List.set_cons_zero, List.set_cons_succ, List.nil_append, List.cons_append, Nat.reduceAdd, Leaves.at])
          refine told_val (v := .int .i64 (levelL d' cs' x)) (fun _ => rfl) (fun vs W hW => ?_) ?_
          · go_simp
            exact loose_call (HL2.out W hW)
          simp only [Act.put, List.setIfInBounds_toArray, List.set_cons_zero, List.set_cons_succ, List.nil_append, List.cons_append, Nat.reduceAdd, Leaves.at]
          repeat (refine told_val (v := ?_) (fun _ => rfl) (fun vs W hW => ?_) ?_; rotate_left; (focus (have hf := HF.out W hW; clear hW; go_simp; exact loose_val)); simp only [Act.put, List.setIfInBounds_toArray, List.set_cons_zero, List.set_cons_succ, List.nil_append, List.cons_append, Nat.reduceAdd, Leaves.at])
          refine told_nil ?_
          intro vs W hW hok hap
          clear hap
          dsimp only
          have HW := hid hW
          clear hok hW
          go_wp2_with fail
          go_ret
          exact ⟨by rw [HE.out]; rfl, HBw.out.trans (since_below HW.out HBw.out.size)⟩
      · have hltz : ¬ (k : Int) < (m : Int) := by omega
        have HE : Hid (leqD d cs d' cs' = true) := by
          show _ = _
          rw [HS.out, decide_eq_true hd, Bool.true_and, List.all_eq_true]
          intro x hx
          obtain ⟨j, hj, rfl⟩ := List.getElem_of_mem hx
          simpa using AL.out j _ (by rw [HML.out] at hj; omega) (List.getElem?_eq_getElem hj)
        go_wp2_with fail
        go_ret
        exact ⟨by rw [HE.out]; rfl, HBw.out⟩
  · have hd2 : d' < d := by omega
    have HE : Hid (leqD d cs d' cs' = false) := by
      show _ = _
      rw [HS.out, decide_eq_false hd, Bool.false_and]
    go_enter Try.func41, Try.ntmps41
    go_wp2_with fail
    go_ret
    exact ⟨by rw [HE.out]; rfl, HB.out⟩
end Go.Proofs.Ytndohmimcbmhdaa
