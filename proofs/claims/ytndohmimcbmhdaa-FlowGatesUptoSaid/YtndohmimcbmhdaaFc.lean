/- The law's example of flow. -/
import Derived.Test.YtndohmimcbmhdaaFb
set_option linter.unusedVariables false
set_option linter.unusedSimpArgs false
namespace Go.Proofs.Ytndohmimcbmhdaa
open Go.RowKit Go.Sort

theorem cats_1 {W : World} {g : Nat} {i v : Int} (h : Blk W g 32 #[.int .u64 i, .int .i64 v]) (c : Nat) (h1 : 1 ≤ c) (h2 : c ≤ maxLen) : CatsAt W W.heap.size (some ⟨g, 0, none⟩) 1 c [(i, v)] :=
  ⟨rfl, h1, h2, fun _ => ⟨g, 0, rfl, h.lt, fun k x hx => by
    match k with
    | 0 =>
      simp only [List.getElem?_cons_zero, Option.some.injEq] at hx
      subst hx
      exact h.cells2
    | k + 1 => simp at hx⟩⟩

set_option maxHeartbeats 2000000 in
set_option maxRecDepth 100000 in
theorem at110 (w : World) (id lv : Int) : Calls Try.prog 110 #[.int .u64 id, .int .i64 lv] w fun e w' => RetLab 2 (formL 2 [(id, lv)]) w e w' := by
  obtain ⟨q1, q2, q3⟩ := two_blk w #[.int .i64 0, .slice none 0 0] #[.int .u64 id, .int .i64 lv] 26 32
  have HB := hid q1
  have HP1 := hid q2
  have HP2 := hid q3
  clear q1 q2 q3
  go_enter Try.func110, Try.ntmps110
  go_wp2_with fail
  generalize (w.alloc (.cells #[.int .i64 0, .slice none 0 0] 26)).alloc (.cells #[.int .u64 id, .int .i64 lv] 32) = wa at *
  refine (make34_l wa 2 _ 1 1 [(id, lv)] (cats_1 HP2.out 1 (Nat.le_refl _) (by unfold maxLen; omega)) (by omega)).mono ?_
  rintro e w1 ⟨v, rfl, ⟨A1, n1, c1, rfl, hT⟩, hb⟩
  have HK := HP1.out.below hb HP1.out.lt
  obtain ⟨⟨z0, z1⟩, z2, z3⟩ := label_zero HK
  have HT := hid hT
  have HKH := hid HK
  have HB2 := hid (HB.out.trans (hb.mono HB.out.size))
  have hlt := HP1.out.lt
  have hs := hb.size
  clear hb hT HK
  go_wp2_with fail
  refine bodyPost_ret (label_run (label_put HKH.out _ _) rfl _ rfl) rfl ?_
  obtain ⟨Wp, hwp, K1, BW⟩ := put1 HKH.out (.int .i64 2) (.slice A1 n1 c1)
  rw [hwp]
  exact ⟨_, rfl, ⟨A1, n1, c1, rfl, (HT.out.keep (Nat.le_refl _) BW fun g hg => by subst hg; exact bare26 HKH.out).more BW.size⟩, BW.done HB2.out (fun k hk => by subst hk; omega) HB2.out.size⟩

set_option maxHeartbeats 4000000 in
set_option maxRecDepth 100000 in
theorem alive53 (w : World) : Calls Try.prog 53 #[] w fun e w' => e = .returned (.bool true) ∧ Below w.heap.size w w' := by
  have mixed : Try.prog.follows .mixedOrders = true := by kernel_rfl
  go_enter Try.func53, Try.ntmps53
  go_wp2_with fail
  obtain ⟨q1, q2, q3⟩ := two_blk w #[.int .i64 2, .slice none 0 0] #[.int .i64 2, .slice none 0 0, .int .i64 2, .slice none 0 0] 26 43
  have HB := hid q1
  have HP1 := hid q2
  have HP2 := hid q3
  clear q1 q2 q3
  generalize (w.alloc (.cells #[.int .i64 2, .slice none 0 0] 26)).alloc (.cells #[.int .i64 2, .slice none 0 0, .int .i64 2, .slice none 0 0] 43) = wa at *
  refine (at110 wa 7 4).mono ?_
  rintro e w1 ⟨v, rfl, ⟨A1, n1, c1, rfl, hT1⟩, hb1⟩
  have HT1 := hid hT1
  have HB1 := hid hb1
  clear hT1 hb1
  go_wp2_with fail
  refine (at110 w1 7 4).mono ?_
  rintro e w2 ⟨v, rfl, ⟨A2, n2, c2, rfl, hT2⟩, hb2⟩
  have HT2 := hid hT2
  have HB2 := hid hb2
  clear hT2 hb2
  have R1 : readsB 2 [] 2 [] = true := by decide
  have W1 : writesB 2 [] 2 [] = true := by decide
  have R2 : readsB 2 (formL 2 [(7, 4)]) 2 [] = true := by decide
  have W2 : writesB 2 (formL 2 [(7, 4)]) 2 [] = false := by decide
  have R3 : readsB 2 [] 2 (formL 2 [(7, 4)]) = false := by decide
  have M1 : makesB 2 [] 2 [] 2 [] = true := by decide
  have M2 : makesB 2 (formL 2 [(7, 4)]) 2 (formL 2 [(7, 4)]) 2 [] = false := by decide
  have hF : (formL 2 [((7 : Int), (4 : Int))]).length ≤ 10 := by decide
  have R1 := hid R1
  have R2 := hid R2
  have R3 := hid R3
  have W1 := hid W1
  have W2 := hid W2
  have M1 := hid M1
  have M2 := hid M2
  have HN1 := hid HT1.out.len
  have HN2 := hid HT2.out.len
  go_wp2_with fail
  have BX : Hid (Below w2.heap.size w2 (w2.alloc (.cells #[.int .i64 2, .slice A1 n1 c1, .int .i64 2, .slice A2 n2 c2] 43))) := (Below.refl _ w2).alloc (Nat.le_refl _) _
  have PX : Hid (Blk (w2.alloc (.cells #[.int .i64 2, .slice A1 n1 c1, .int .i64 2, .slice A2 n2 c2] 43)) w2.heap.size 43 #[.int .i64 2, .slice A1 n1 c1, .int .i64 2, .slice A2 n2 c2]) := Blk.new w2 43 _
  have HT1b := hid ((((HT1.out.below HB2.out).more HB2.out.size).below BX.out).more BX.out.size)
  have HT2b := hid ((HT2.out.below BX.out).more BX.out.size)
  have HP1b := hid (((HP1.out.below HB1.out HP1.out.lt).below HB2.out (Nat.lt_of_lt_of_le HP1.out.lt HB1.out.size)).below BX.out (Nat.lt_of_lt_of_le HP1.out.lt (Nat.le_trans HB1.out.size HB2.out.size)))
  have HP2b := hid (((HP2.out.below HB1.out HP2.out.lt).below HB2.out (Nat.lt_of_lt_of_le HP2.out.lt HB1.out.size)).below BX.out (Nat.lt_of_lt_of_le HP2.out.lt (Nat.le_trans HB1.out.size HB2.out.size)))
  have HBX : Hid (Below w.heap.size w (w2.alloc (.cells #[.int .i64 2, .slice A1 n1 c1, .int .i64 2, .slice A2 n2 c2] 43))) := belowT (belowT (belowT HB.out HB1.out) HB2.out) BX.out
  have hn1 : n1 ≤ 10 := by rw [← HN1.out]; exact hF
  have hn2 : n2 ≤ 10 := by rw [← HN2.out]; exact hF
  clear hF
  generalize w2.alloc (.cells #[.int .i64 2, .slice A1 n1 c1, .int .i64 2, .slice A2 n2 c2] 43) = wx at *
  have HAT := hid (fun W => at110 W 7 4)
  generalize formL 2 [(7, 4)] = F at *
  have HF : Hid (∀ W, But nil_ wx W → ((W.cell? ⟨w.heap.size, 0, none⟩ = some (.int .i64 2) ∧ W.cell? ⟨w.heap.size, 1, none⟩ = some (.slice none 0 0)) ∧ (W.cell? ⟨w.heap.size + 1, 0, none⟩ = some (.int .i64 2) ∧ W.cell? ⟨w.heap.size + 1, 1, none⟩ = some (.slice none 0 0) ∧ W.cell? ⟨w.heap.size + 1, 2, none⟩ = some (.int .i64 2) ∧ W.cell? ⟨w.heap.size + 1, 3, none⟩ = some (.slice none 0 0))) ∧ (W.cell? ⟨w2.heap.size, 0, none⟩ = some (.int .i64 2) ∧ W.cell? ⟨w2.heap.size, 1, none⟩ = some (.slice A1 n1 c1) ∧ W.cell? ⟨w2.heap.size, 2, none⟩ = some (.int .i64 2) ∧ W.cell? ⟨w2.heap.size, 3, none⟩ = some (.slice A2 n2 c2))) :=
    fun W hW => ⟨⟨(hW.blk HP1b.out (fun h => h)).cells2, (hW.blk HP2b.out (fun h => h)).cells4⟩, (hW.blk PX.out (fun h => h)).cells4⟩
  refine wp_region_told 37 nil_ mixed (by kernel_rfl) ?_
  simp only [List.take_succ_cons, List.take_zero, List.drop_succ_cons, List.drop_zero]
  repeat (refine told_val (v := ?_) (fun _ => rfl) (fun vs W hW => ?_) ?_; rotate_left; (focus (have hf := HF.out W hW; clear hW; go_simp; exact loose_val)); simp only [Act.put, List.setIfInBounds_toArray, List.set_cons_zero, List.set_cons_succ, List.nil_append, List.cons_append, Nat.reduceAdd, Leaves.at])
  refine told_val (v := .bool true) (fun _ => rfl) (fun vs W hW => ?_) ?_
  · go_simp
    exact loose_call (by have := f54 W 2 none 0 0 [] 2 none 0 0 [] 2 none 0 0 [] CatsAt.nil_ (by omega) CatsAt.nil_ (by omega) CatsAt.nil_ (by omega); rw [R1.out] at this; exact this)
  simp only [Act.put, List.setIfInBounds_toArray, List.set_cons_zero, List.set_cons_succ, List.nil_append, List.cons_append, Nat.reduceAdd, Leaves.at]
  repeat (refine told_val (v := ?_) (fun _ => rfl) (fun vs W hW => ?_) ?_; rotate_left; (focus (have hf := HF.out W hW; clear hW; go_simp; exact loose_val)); simp only [Act.put, List.setIfInBounds_toArray, List.set_cons_zero, List.set_cons_succ, List.nil_append, List.cons_append, Nat.reduceAdd, Leaves.at])
  refine told_val (v := .bool true) (fun _ => rfl) (fun vs W hW => ?_) ?_
  · go_simp
    exact loose_call (by have := f56 W 2 none 0 0 [] 2 none 0 0 [] 2 none 0 0 [] CatsAt.nil_ (by omega) CatsAt.nil_ (by omega) CatsAt.nil_ (by omega); rw [W1.out] at this; exact this)
  simp only [Act.put, List.setIfInBounds_toArray, List.set_cons_zero, List.set_cons_succ, List.nil_append, List.cons_append, Nat.reduceAdd, Leaves.at]
  repeat (refine told_val (v := ?_) (fun _ => rfl) (fun vs W hW => ?_) ?_; rotate_left; (focus (have hf := HF.out W hW; clear hW; go_simp; exact loose_val)); simp only [Act.put, List.setIfInBounds_toArray, List.set_cons_zero, List.set_cons_succ, List.nil_append, List.cons_append, Nat.reduceAdd, Leaves.at])
  refine told_val (v := .bool true) (fun _ => rfl) (fun vs W hW => ?_) ?_
  · go_simp
    exact loose_call (by have := f54 W 2 A1 n1 c1 F 2 A2 n2 c2 F 2 none 0 0 [] (HT1b.out.since_ hW) (by omega) (HT2b.out.since_ hW) (by omega) CatsAt.nil_ (by omega); rw [R2.out] at this; exact this)
  simp only [Act.put, List.setIfInBounds_toArray, List.set_cons_zero, List.set_cons_succ, List.nil_append, List.cons_append, Nat.reduceAdd, Leaves.at]
  repeat (refine told_val (v := ?_) (fun _ => rfl) (fun vs W hW => ?_) ?_; rotate_left; (focus (have hf := HF.out W hW; clear hW; go_simp; exact loose_val)); simp only [Act.put, List.setIfInBounds_toArray, List.set_cons_zero, List.set_cons_succ, List.nil_append, List.cons_append, Nat.reduceAdd, Leaves.at])
  refine told_val (v := .bool false) (fun _ => rfl) (fun vs W hW => ?_) ?_
  · go_simp
    exact loose_call (by have := f56 W 2 A1 n1 c1 F 2 A2 n2 c2 F 2 none 0 0 [] (HT1b.out.since_ hW) (by omega) (HT2b.out.since_ hW) (by omega) CatsAt.nil_ (by omega); rw [W2.out] at this; exact this)
  simp only [Act.put, List.setIfInBounds_toArray, List.set_cons_zero, List.set_cons_succ, List.nil_append, List.cons_append, Nat.reduceAdd, Leaves.at]
  repeat (refine told_val (v := ?_) (fun _ => rfl) (fun vs W hW => ?_) ?_; rotate_left; (focus (have hf := HF.out W hW; clear hW; go_simp; exact loose_val)); simp only [Act.put, List.setIfInBounds_toArray, List.set_cons_zero, List.set_cons_succ, List.nil_append, List.cons_append, Nat.reduceAdd, Leaves.at])
  refine told_rel (LabR 2 F) LabR.stable (fun _ => rfl) (fun vs W hW hd => ?_) ?_
  · clear hd
    go_simp
    exact loose_callR (HAT.out W)
  simp only [Act.put, List.setIfInBounds_toArray, List.set_cons_zero, List.set_cons_succ, List.nil_append, List.cons_append, Nat.reduceAdd, Leaves.at]
  refine told_val' (v := .bool false) (fun _ => rfl) (fun vs W hW hd => ?_) ?_
  · obtain ⟨P21, m21, k21, e21, hT21⟩ := hd ⟨21, .data⟩ (by simp) rfl _ rfl (fun h => by cases h)
    clear hd
    go_simp
    exact loose_call (by have := f54 W 2 none 0 0 [] 2 none 0 0 [] 2 P21 m21 k21 F CatsAt.nil_ (by omega) CatsAt.nil_ (by omega) hT21 (by have := hT21.len; have := HN1.out; omega); rw [R3.out] at this; exact this)
  simp only [Act.put, List.setIfInBounds_toArray, List.set_cons_zero, List.set_cons_succ, List.nil_append, List.cons_append, Nat.reduceAdd, Leaves.at]
  repeat (refine told_val (v := ?_) (fun _ => rfl) (fun vs W hW => ?_) ?_; rotate_left; (focus (have hf := HF.out W hW; clear hW; go_simp; exact loose_val)); simp only [Act.put, List.setIfInBounds_toArray, List.set_cons_zero, List.set_cons_succ, List.nil_append, List.cons_append, Nat.reduceAdd, Leaves.at])
  refine told_val (v := .bool true) (fun _ => rfl) (fun vs W hW => ?_) ?_
  · go_simp
    exact loose_call (by have := f58 W 2 none 0 0 [] 2 none 0 0 [] 2 none 0 0 [] CatsAt.nil_ (by omega) CatsAt.nil_ (by omega) CatsAt.nil_ (by omega); rw [M1.out] at this; exact this)
  simp only [Act.put, List.setIfInBounds_toArray, List.set_cons_zero, List.set_cons_succ, List.nil_append, List.cons_append, Nat.reduceAdd, Leaves.at]
  repeat (refine told_val (v := ?_) (fun _ => rfl) (fun vs W hW => ?_) ?_; rotate_left; (focus (have hf := HF.out W hW; clear hW; go_simp; exact loose_val)); simp only [Act.put, List.setIfInBounds_toArray, List.set_cons_zero, List.set_cons_succ, List.nil_append, List.cons_append, Nat.reduceAdd, Leaves.at])
  refine told_val (v := .bool false) (fun _ => rfl) (fun vs W hW => ?_) ?_
  · go_simp
    exact loose_call (by have := f58 W 2 A1 n1 c1 F 2 A2 n2 c2 F 2 none 0 0 [] (HT1b.out.since_ hW) (by omega) (HT2b.out.since_ hW) (by omega) CatsAt.nil_ (by omega); rw [M2.out] at this; exact this)
  simp only [Act.put, List.setIfInBounds_toArray, List.set_cons_zero, List.set_cons_succ, List.nil_append, List.cons_append, Nat.reduceAdd, Leaves.at]
  repeat (refine told_val (v := ?_) (fun _ => rfl) (fun vs W hW => ?_) ?_; rotate_left; (focus (have hf := HF.out W hW; clear hW; go_simp; exact loose_val)); simp only [Act.put, List.setIfInBounds_toArray, List.set_cons_zero, List.set_cons_succ, List.nil_append, List.cons_append, Nat.reduceAdd, Leaves.at])
  refine told_nil ?_
  intro vs W hW hok hap
  clear hap
  dsimp only
  have HBE := hid (HBX.out.trans (since_below hW HBX.out.size))
  clear hok hW
  go_wp2_with fail
  go_ret
  exact ⟨rfl, HBE.out⟩
end Go.Proofs.Ytndohmimcbmhdaa
