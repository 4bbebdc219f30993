/-
  SpaceWindows: called with any values of its parameters, the law answers true, and of what lay in memory nothing has turned. No condition.
-/
import Derived.Test.YtndohmimcbmhdaaRows
import Derived.Test.YtndohmimcbmhdaaMz0
import Derived.Test.YtndohmimcbmhdaaMz2
import Derived.Test.YtndohmimcbmhdaaMw1
set_option linter.unusedVariables false
set_option linter.unusedSimpArgs false
namespace Go.Proofs.Ytndohmimcbmhdaa.lawSpaceWindows
open Go.ChangeShapes Go.WideShapes Go.ChangeAt Go.RowKit Go.Sort

theorem own : ownKnob Try.prog.godebug = none := by kernel_rfl
theorem laidOut : laidOutB Try.prog = true := by kernel_rfl


set_option maxHeartbeats 16000000 in
set_option maxRecDepth 100000 in
theorem walk (a0 : Int) (a1 : Int) (b1 : Int) (a2 : Int) (w : World) (b0 : -9223372036854775808 ≤ a0 ∧ a0 ≤ 9223372036854775807) (x1 : 0 ≤ a1 ∧ a1 ≤ 18446744073709551615) (y1 : 0 ≤ b1 ∧ b1 ≤ 18446744073709551615) (b2 : -9223372036854775808 ≤ a2 ∧ a2 ≤ 9223372036854775807) :
    Calls Try.prog 19 #[.int .i64 a0, .agg #[.int .u64 a1, .int .u64 b1], .int .i64 a2] w fun e w' => e = .returned (.bool true) ∧ Below w.heap.size w w' := by
  have mixed : Try.prog.follows .mixedOrders = true := by kernel_rfl
  have hmap := fun W => map_likeP likeP_empty W a0 a1 b1 emptyT_R rfl x1 y1
  by_cases hm : mapOk emptyT emptyL a0 (a1, b1) = true
  · have hT : ThR (setSlot emptyT a0 (a1, b1)) := setSlot_R emptyT_R a0 (s := (a1, b1)) x1 y1
    have hm' := hm
    rw [mapOk_empty, Bool.and_eq_true] at hm'
    have hr := of_decide_eq_true hm'.1
    obtain ⟨h0, h4⟩ := hr
    have HBACK : Hid (∀ u, LikeP (setSlot emptyT a0 (a1, b1)) u → ∀ W, Calls Try.prog 73 #[.agg (thC u), .int .i64 a0, .agg #[.int .u64 0, .int .u64 0]] W fun e w' => (∃ v, e = .returned (.tuple #[.agg (thC v), .int .i64 0]) ∧ LikeP emptyT v) ∧ Below W.heap.size W w') := fun u hu W => by
      have := map_likeP hu W a0 0 0 hT ((setSlot_kind _ _ _).trans rfl) ⟨by decide, by decide⟩ ⟨by decide, by decide⟩
      rw [mapOk_back h0 h4, if_pos rfl, if_pos rfl, setSlot_back h0 h4] at this
      exact this
    rw [if_pos hm, if_pos hm] at hmap
    have HMAP := hid hmap
    clear hmap hm hm' x1 y1 b0 hT
    by_cases hA : a2 < 0
    · have hA' : ¬ 0 ≤ a2 := by omega
      have HWV := hid (whereV_far (t := setSlot emptyT a0 (a1, b1)) (x := a2) (by omega))
      generalize setSlot emptyT a0 (a1, b1) = tt at *
      go_enter Try.func19, Try.ntmps19
      go_wp2_with (first
        | (go_at_call 70
           refine (alive70 _).mono ?_
           rintro e w1 ⟨rfl, hb1⟩
           have HB1 := hid (((Below.refl _ w).alloc (Nat.le_refl _) _).trans (hb1.mono (by simp)))
           have HK1 := hid ((Blk.new w 52 _).below hb1 (by simp))
           clear hb1))
      refine wp_region_toldz 9 mixed (by kernel_rfl) ?_
      simp only [List.take_succ_cons, List.take_zero, List.drop_succ_cons, List.drop_zero]
      refine z_val (v := .agg (thC emptyT)) (fun _ => rfl) (fun vs W hW => ?_) ?_
      · go_simp
        exact loose_call (empty69_e W)
      simp only [Act.put, List.setIfInBounds_toArray, List.set_cons_zero, List.set_cons_succ, List.nil_append, List.cons_append, Nat.reduceAdd]
      refine z_val (v := ?_) (fun _ => rfl) (fun vs W hW => ?_) ?_
      rotate_left
      · clear hW
        go_simp
        exact loose_val
      simp only [Act.put, List.setIfInBounds_toArray, List.set_cons_zero, List.set_cons_succ, List.nil_append, List.cons_append, Nat.reduceAdd]
      refine z_val (v := .agg #[.int .u64 a1, .int .u64 b1]) (fun _ => rfl) (fun vs W hW => loose_load (cur := [.int .u64 a1, .int .u64 b1]) (vs := [.int .u64 a1, .int .u64 b1]) rfl rfl (hW.blk HK1.out (fun h => h)) (agg_of_struct Try.underlying52) size52 rfl) ?_
      simp only [Act.put, List.setIfInBounds_toArray, List.set_cons_zero, List.set_cons_succ, List.nil_append, List.cons_append, Nat.reduceAdd]
      refine z_part (RetT tt 0) RetT.steady (fun _ => rfl) (fun vs W Good hW hd => ?_) ?_
      · clear hd
        go_simp
        exact z_callT (HMAP.out W)
      simp only [Act.put, List.setIfInBounds_toArray, List.set_cons_zero, List.set_cons_succ, List.nil_append, List.cons_append, Nat.reduceAdd]
      refine z_part (RetT tt 0) RetT.steady (fun _ => rfl) (fun vs W Good hW hd => z_movT (hd ⟨3, .data⟩ (by simp) rfl _ rfl)) ?_
      simp only [Act.put, List.setIfInBounds_toArray, List.set_cons_zero, List.set_cons_succ, List.nil_append, List.cons_append, Nat.reduceAdd]
      refine z_part (GotT tt) GotT.steady (fun _ => rfl) (fun vs W Good hW hd => z_thT rfl rfl (hd ⟨4, .data⟩ (by simp) rfl _ rfl)) ?_
      simp only [Act.put, List.setIfInBounds_toArray, List.set_cons_zero, List.set_cons_succ, List.nil_append, List.cons_append, Nat.reduceAdd]
      refine z_val' (v := .int .i64 0) (fun _ => rfl) (fun vs W Good hW hd => z_numT rfl rfl (hd ⟨4, .data⟩ (by simp) rfl _ rfl)) ?_
      simp only [Act.put, List.setIfInBounds_toArray, List.set_cons_zero, List.set_cons_succ, List.nil_append, List.cons_append, Nat.reduceAdd]
      refine z_box 61 (thC zeroTh) (fun _ => rfl) (fun vs W hW => alloc_run61 rfl) ?_
      simp only [Act.put, List.setIfInBounds_toArray, List.set_cons_zero, List.set_cons_succ, List.nil_append, List.cons_append, Nat.reduceAdd]
      refine z_fill 7 5 61 (thC zeroTh) (PutT tt) rfl PutT.steady (by kernel_rfl) (fun _ => rfl) (fun vs W Good hW hd g hg hk => z_putT rfl rfl hg rfl hk (hd ⟨5, .data⟩ (by simp) rfl _ rfl)) ?_
      simp only [Act.put, List.setIfInBounds_toArray, List.set_cons_zero, List.set_cons_succ, List.nil_append, List.cons_append, Nat.reduceAdd]
      refine z_nil ?_
      intro vs W hW hv hp hb hf
      obtain ⟨u, g, e7, e5, hu, hk⟩ := hf 8 7 5 _ rfl
      dsimp only
      rw [e7, e5]
      have HB2 := hid (HB1.out.trans (since_below hW HB1.out.size))
      have HK2 := hid (hW.blk HK1.out (fun h => h))
      have HG2 := hid hk
      have HU := hid hu
      clear hv hp hb hf hk hu hW e7 e5
      generalize vs 3 = v3
      generalize vs 4 = v4
      unfold ptr
      obtain ⟨f1, f2⟩ := Blk.cells2 HK2.out
      go_wp2_with (first
        | (with_reducible refine wpList_load61 u g ?_ ?_ ?_
           · exact rfl
           · with_reducible exact HG2.out)
        | (with_reducible refine wpList_load61 u g ?_ ?_ ?_
           · exact rfl
           · with_reducible exact HG4.out)
        | (with_reducible refine wpList_new52 (0) (0) ?_ ?_ ?_
           · exact rfl
           · exact rfl
           have HB4 := hid (HB3.out.alloc HB3.out.size (.cells #[.int .u64 (0), .int .u64 (0)] 52))
           have HK4 := hid (HK3.out.alloc (.cells #[.int .u64 (0), .int .u64 (0)] 52))
           have HG4 := hid (HG3.out.alloc (.cells #[.int .u64 (0), .int .u64 (0)] 52))
           have HS4 : Hid (Blk (w3.alloc (.cells #[.int .u64 (0), .int .u64 (0)] 52)) w3.heap.size 52 #[.int .u64 (0), .int .u64 (0)]) := Blk.new w3 52 _
           generalize w3.alloc (.cells #[.int .u64 (0), .int .u64 (0)] 52) = w4 at *
           obtain ⟨f3, f4⟩ := Blk.cells2 HK4.out
           obtain ⟨f5, f6⟩ := Blk.cells2 HS4.out)
        | (go_at_call 68
           refine (where_likeP HU.out W a2).mono ?_
           rw [HWV.out]
           rintro e w3 ⟨rfl, hb3⟩
           have HB3 := hid (HB2.out.trans (hb3.mono HB2.out.size))
           have HK3 := hid (HK2.out.below hb3 HK2.out.lt)
           have HG3 := hid (HG2.out.below hb3 HG2.out.lt)
           clear hb3)
        | (go_at_call 73
           refine (HBACK.out u HU.out w4).mono ?_
           rintro e w5 ⟨⟨v, rfl, hv⟩, hb5⟩
           have HV := hid hv
           have HB5 := hid (HB4.out.trans (hb5.mono HB4.out.size))
           clear hv hb5)
        | (with_reducible refine wpList_new61 v ?_ ?_ ?_
           · exact rfl
           · exact rfl
           have HB6 := hid (HB5.out.alloc HB5.out.size (.cells (thC v) 61))
           have HG6 : Hid (Blk (w5.alloc (.cells (thC v) 61)) w5.heap.size 61 (thC v)) := Blk.new w5 61 _
           generalize w5.alloc (.cells (thC v) 61) = w6 at *))
      refine wp_region_told 7 nil_ mixed (by kernel_rfl) ?_
      simp only [List.take_succ_cons, List.take_zero, List.drop_succ_cons, List.drop_zero]
      repeat (refine told_val (v := ?_) (fun _ => rfl) (fun vs W hW => ?_) ?_; rotate_left; (focus (clear hW; go_simp; exact loose_val)); simp only [Act.put, List.setIfInBounds_toArray, List.set_cons_zero, List.set_cons_succ, List.nil_append, List.cons_append, Nat.reduceAdd, Leaves.at])
      refine told_val (v := .agg (thC v)) (hw := fun _ => rfl) (hr := fun vs W hW => loose_load61 rfl rfl (hW.blk HG6.out (fun h => h))) ?_
      simp only [Act.put, List.setIfInBounds_toArray, List.set_cons_zero, List.set_cons_succ, List.nil_append, List.cons_append, Nat.reduceAdd, Leaves.at]
      refine told_val (v := .agg (thC emptyT)) (fun _ => rfl) (fun vs W hW => ?_) ?_
      · go_simp
        exact loose_call (empty69_e W)
      simp only [Act.put, List.setIfInBounds_toArray, List.set_cons_zero, List.set_cons_succ, List.nil_append, List.cons_append, Nat.reduceAdd, Leaves.at]
      refine told_val (v := .bool true) (fun _ => rfl) (fun vs W hW => ?_) ?_
      · go_simp
        exact loose_call (same_likeP HV.out W (emptyT_at W))
      simp only [Act.put, List.setIfInBounds_toArray, List.set_cons_zero, List.set_cons_succ, List.nil_append, List.cons_append, Nat.reduceAdd, Leaves.at]
      repeat (refine told_val (v := ?_) (fun _ => rfl) (fun vs W hW => ?_) ?_; rotate_left; (focus (clear hW; go_simp; exact loose_val)); simp only [Act.put, List.setIfInBounds_toArray, List.set_cons_zero, List.set_cons_succ, List.nil_append, List.cons_append, Nat.reduceAdd, Leaves.at])
      refine told_nil ?_
      intro vs W7 hW7 hok hap
      clear hap
      dsimp only
      have HB7 := hid (HB6.out.trans (since_below hW7 HB6.out.size))
      clear hok hW7
      go_wp2_with fail
      go_ret
      exact ⟨rfl, HB7.out⟩
    · have hA0 : 0 ≤ a2 := by omega
      by_cases hB : 512 ≤ a2
      · have hB' : ¬ a2 < 512 := by omega
        have HWV := hid (whereV_far (t := setSlot emptyT a0 (a1, b1)) (x := a2) (by omega))
        generalize setSlot emptyT a0 (a1, b1) = tt at *
        go_enter Try.func19, Try.ntmps19
        go_wp2_with (first
          | (go_at_call 70
             refine (alive70 _).mono ?_
             rintro e w1 ⟨rfl, hb1⟩
             have HB1 := hid (((Below.refl _ w).alloc (Nat.le_refl _) _).trans (hb1.mono (by simp)))
             have HK1 := hid ((Blk.new w 52 _).below hb1 (by simp))
             clear hb1))
        refine wp_region_toldz 9 mixed (by kernel_rfl) ?_
        simp only [List.take_succ_cons, List.take_zero, List.drop_succ_cons, List.drop_zero]
        refine z_val (v := .agg (thC emptyT)) (fun _ => rfl) (fun vs W hW => ?_) ?_
        · go_simp
          exact loose_call (empty69_e W)
        simp only [Act.put, List.setIfInBounds_toArray, List.set_cons_zero, List.set_cons_succ, List.nil_append, List.cons_append, Nat.reduceAdd]
        refine z_val (v := ?_) (fun _ => rfl) (fun vs W hW => ?_) ?_
        rotate_left
        · clear hW
          go_simp
          exact loose_val
        simp only [Act.put, List.setIfInBounds_toArray, List.set_cons_zero, List.set_cons_succ, List.nil_append, List.cons_append, Nat.reduceAdd]
        refine z_val (v := .agg #[.int .u64 a1, .int .u64 b1]) (fun _ => rfl) (fun vs W hW => loose_load (cur := [.int .u64 a1, .int .u64 b1]) (vs := [.int .u64 a1, .int .u64 b1]) rfl rfl (hW.blk HK1.out (fun h => h)) (agg_of_struct Try.underlying52) size52 rfl) ?_
        simp only [Act.put, List.setIfInBounds_toArray, List.set_cons_zero, List.set_cons_succ, List.nil_append, List.cons_append, Nat.reduceAdd]
        refine z_part (RetT tt 0) RetT.steady (fun _ => rfl) (fun vs W Good hW hd => ?_) ?_
        · clear hd
          go_simp
          exact z_callT (HMAP.out W)
        simp only [Act.put, List.setIfInBounds_toArray, List.set_cons_zero, List.set_cons_succ, List.nil_append, List.cons_append, Nat.reduceAdd]
        refine z_part (RetT tt 0) RetT.steady (fun _ => rfl) (fun vs W Good hW hd => z_movT (hd ⟨3, .data⟩ (by simp) rfl _ rfl)) ?_
        simp only [Act.put, List.setIfInBounds_toArray, List.set_cons_zero, List.set_cons_succ, List.nil_append, List.cons_append, Nat.reduceAdd]
        refine z_part (GotT tt) GotT.steady (fun _ => rfl) (fun vs W Good hW hd => z_thT rfl rfl (hd ⟨4, .data⟩ (by simp) rfl _ rfl)) ?_
        simp only [Act.put, List.setIfInBounds_toArray, List.set_cons_zero, List.set_cons_succ, List.nil_append, List.cons_append, Nat.reduceAdd]
        refine z_val' (v := .int .i64 0) (fun _ => rfl) (fun vs W Good hW hd => z_numT rfl rfl (hd ⟨4, .data⟩ (by simp) rfl _ rfl)) ?_
        simp only [Act.put, List.setIfInBounds_toArray, List.set_cons_zero, List.set_cons_succ, List.nil_append, List.cons_append, Nat.reduceAdd]
        refine z_box 61 (thC zeroTh) (fun _ => rfl) (fun vs W hW => alloc_run61 rfl) ?_
        simp only [Act.put, List.setIfInBounds_toArray, List.set_cons_zero, List.set_cons_succ, List.nil_append, List.cons_append, Nat.reduceAdd]
        refine z_fill 7 5 61 (thC zeroTh) (PutT tt) rfl PutT.steady (by kernel_rfl) (fun _ => rfl) (fun vs W Good hW hd g hg hk => z_putT rfl rfl hg rfl hk (hd ⟨5, .data⟩ (by simp) rfl _ rfl)) ?_
        simp only [Act.put, List.setIfInBounds_toArray, List.set_cons_zero, List.set_cons_succ, List.nil_append, List.cons_append, Nat.reduceAdd]
        refine z_nil ?_
        intro vs W hW hv hp hb hf
        obtain ⟨u, g, e7, e5, hu, hk⟩ := hf 8 7 5 _ rfl
        dsimp only
        rw [e7, e5]
        have HB2 := hid (HB1.out.trans (since_below hW HB1.out.size))
        have HK2 := hid (hW.blk HK1.out (fun h => h))
        have HG2 := hid hk
        have HU := hid hu
        clear hv hp hb hf hk hu hW e7 e5
        generalize vs 3 = v3
        generalize vs 4 = v4
        unfold ptr
        obtain ⟨f1, f2⟩ := Blk.cells2 HK2.out
        go_wp2_with (first
          | (with_reducible refine wpList_load61 u g ?_ ?_ ?_
             · exact rfl
             · with_reducible exact HG2.out)
          | (with_reducible refine wpList_load61 u g ?_ ?_ ?_
             · exact rfl
             · with_reducible exact HG4.out)
          | (with_reducible refine wpList_new52 (0) (0) ?_ ?_ ?_
             · exact rfl
             · exact rfl
             have HB4 := hid (HB3.out.alloc HB3.out.size (.cells #[.int .u64 (0), .int .u64 (0)] 52))
             have HK4 := hid (HK3.out.alloc (.cells #[.int .u64 (0), .int .u64 (0)] 52))
             have HG4 := hid (HG3.out.alloc (.cells #[.int .u64 (0), .int .u64 (0)] 52))
             have HS4 : Hid (Blk (w3.alloc (.cells #[.int .u64 (0), .int .u64 (0)] 52)) w3.heap.size 52 #[.int .u64 (0), .int .u64 (0)]) := Blk.new w3 52 _
             generalize w3.alloc (.cells #[.int .u64 (0), .int .u64 (0)] 52) = w4 at *
             obtain ⟨f3, f4⟩ := Blk.cells2 HK4.out
             obtain ⟨f5, f6⟩ := Blk.cells2 HS4.out)
          | (go_at_call 68
             refine (where_likeP HU.out W a2).mono ?_
             rw [HWV.out]
             rintro e w3 ⟨rfl, hb3⟩
             have HB3 := hid (HB2.out.trans (hb3.mono HB2.out.size))
             have HK3 := hid (HK2.out.below hb3 HK2.out.lt)
             have HG3 := hid (HG2.out.below hb3 HG2.out.lt)
             clear hb3)
          | (go_at_call 73
             refine (HBACK.out u HU.out w4).mono ?_
             rintro e w5 ⟨⟨v, rfl, hv⟩, hb5⟩
             have HV := hid hv
             have HB5 := hid (HB4.out.trans (hb5.mono HB4.out.size))
             clear hv hb5)
          | (with_reducible refine wpList_new61 v ?_ ?_ ?_
             · exact rfl
             · exact rfl
             have HB6 := hid (HB5.out.alloc HB5.out.size (.cells (thC v) 61))
             have HG6 : Hid (Blk (w5.alloc (.cells (thC v) 61)) w5.heap.size 61 (thC v)) := Blk.new w5 61 _
             generalize w5.alloc (.cells (thC v) 61) = w6 at *))
        refine wp_region_told 7 nil_ mixed (by kernel_rfl) ?_
        simp only [List.take_succ_cons, List.take_zero, List.drop_succ_cons, List.drop_zero]
        repeat (refine told_val (v := ?_) (fun _ => rfl) (fun vs W hW => ?_) ?_; rotate_left; (focus (clear hW; go_simp; exact loose_val)); simp only [Act.put, List.setIfInBounds_toArray, List.set_cons_zero, List.set_cons_succ, List.nil_append, List.cons_append, Nat.reduceAdd, Leaves.at])
        refine told_val (v := .agg (thC v)) (hw := fun _ => rfl) (hr := fun vs W hW => loose_load61 rfl rfl (hW.blk HG6.out (fun h => h))) ?_
        simp only [Act.put, List.setIfInBounds_toArray, List.set_cons_zero, List.set_cons_succ, List.nil_append, List.cons_append, Nat.reduceAdd, Leaves.at]
        refine told_val (v := .agg (thC emptyT)) (fun _ => rfl) (fun vs W hW => ?_) ?_
        · go_simp
          exact loose_call (empty69_e W)
        simp only [Act.put, List.setIfInBounds_toArray, List.set_cons_zero, List.set_cons_succ, List.nil_append, List.cons_append, Nat.reduceAdd, Leaves.at]
        refine told_val (v := .bool true) (fun _ => rfl) (fun vs W hW => ?_) ?_
        · go_simp
          exact loose_call (same_likeP HV.out W (emptyT_at W))
        simp only [Act.put, List.setIfInBounds_toArray, List.set_cons_zero, List.set_cons_succ, List.nil_append, List.cons_append, Nat.reduceAdd, Leaves.at]
        repeat (refine told_val (v := ?_) (fun _ => rfl) (fun vs W hW => ?_) ?_; rotate_left; (focus (clear hW; go_simp; exact loose_val)); simp only [Act.put, List.setIfInBounds_toArray, List.set_cons_zero, List.set_cons_succ, List.nil_append, List.cons_append, Nat.reduceAdd, Leaves.at])
        refine told_nil ?_
        intro vs W7 hW7 hok hap
        clear hap
        dsimp only
        have HB7 := hid (HB6.out.trans (since_below hW7 HB6.out.size))
        clear hok hW7
        go_wp2_with fail
        go_ret
        exact ⟨rfl, HB7.out⟩
      · have hB1 : a2 < 512 := by omega
        by_cases hj : a2 / 128 = a0
        · by_cases h1 : a1 = 0
          · subst h1
            by_cases h2 : b1 = 0
            · subst h2
              have HWV := hid (whereV_none (i := a0) (x := a2) h0 h4 hA0 hB1)
              generalize setSlot emptyT a0 (0, 0) = tt at *
              go_enter Try.func19, Try.ntmps19
              go_wp2_with (first
                | (go_at_call 70
                   refine (alive70 _).mono ?_
                   rintro e w1 ⟨rfl, hb1⟩
                   have HB1 := hid (((Below.refl _ w).alloc (Nat.le_refl _) _).trans (hb1.mono (by simp)))
                   have HK1 := hid ((Blk.new w 52 _).below hb1 (by simp))
                   clear hb1))
              refine wp_region_toldz 9 mixed (by kernel_rfl) ?_
              simp only [List.take_succ_cons, List.take_zero, List.drop_succ_cons, List.drop_zero]
              refine z_val (v := .agg (thC emptyT)) (fun _ => rfl) (fun vs W hW => ?_) ?_
              · go_simp
                exact loose_call (empty69_e W)
              simp only [Act.put, List.setIfInBounds_toArray, List.set_cons_zero, List.set_cons_succ, List.nil_append, List.cons_append, Nat.reduceAdd]
              refine z_val (v := ?_) (fun _ => rfl) (fun vs W hW => ?_) ?_
              rotate_left
              · clear hW
                go_simp
                exact loose_val
              simp only [Act.put, List.setIfInBounds_toArray, List.set_cons_zero, List.set_cons_succ, List.nil_append, List.cons_append, Nat.reduceAdd]
              refine z_val (v := .agg #[.int .u64 0, .int .u64 0]) (fun _ => rfl) (fun vs W hW => loose_load (cur := [.int .u64 0, .int .u64 0]) (vs := [.int .u64 0, .int .u64 0]) rfl rfl (hW.blk HK1.out (fun h => h)) (agg_of_struct Try.underlying52) size52 rfl) ?_
              simp only [Act.put, List.setIfInBounds_toArray, List.set_cons_zero, List.set_cons_succ, List.nil_append, List.cons_append, Nat.reduceAdd]
              refine z_part (RetT tt 0) RetT.steady (fun _ => rfl) (fun vs W Good hW hd => ?_) ?_
              · clear hd
                go_simp
                exact z_callT (HMAP.out W)
              simp only [Act.put, List.setIfInBounds_toArray, List.set_cons_zero, List.set_cons_succ, List.nil_append, List.cons_append, Nat.reduceAdd]
              refine z_part (RetT tt 0) RetT.steady (fun _ => rfl) (fun vs W Good hW hd => z_movT (hd ⟨3, .data⟩ (by simp) rfl _ rfl)) ?_
              simp only [Act.put, List.setIfInBounds_toArray, List.set_cons_zero, List.set_cons_succ, List.nil_append, List.cons_append, Nat.reduceAdd]
              refine z_part (GotT tt) GotT.steady (fun _ => rfl) (fun vs W Good hW hd => z_thT rfl rfl (hd ⟨4, .data⟩ (by simp) rfl _ rfl)) ?_
              simp only [Act.put, List.setIfInBounds_toArray, List.set_cons_zero, List.set_cons_succ, List.nil_append, List.cons_append, Nat.reduceAdd]
              refine z_val' (v := .int .i64 0) (fun _ => rfl) (fun vs W Good hW hd => z_numT rfl rfl (hd ⟨4, .data⟩ (by simp) rfl _ rfl)) ?_
              simp only [Act.put, List.setIfInBounds_toArray, List.set_cons_zero, List.set_cons_succ, List.nil_append, List.cons_append, Nat.reduceAdd]
              refine z_box 61 (thC zeroTh) (fun _ => rfl) (fun vs W hW => alloc_run61 rfl) ?_
              simp only [Act.put, List.setIfInBounds_toArray, List.set_cons_zero, List.set_cons_succ, List.nil_append, List.cons_append, Nat.reduceAdd]
              refine z_fill 7 5 61 (thC zeroTh) (PutT tt) rfl PutT.steady (by kernel_rfl) (fun _ => rfl) (fun vs W Good hW hd g hg hk => z_putT rfl rfl hg rfl hk (hd ⟨5, .data⟩ (by simp) rfl _ rfl)) ?_
              simp only [Act.put, List.setIfInBounds_toArray, List.set_cons_zero, List.set_cons_succ, List.nil_append, List.cons_append, Nat.reduceAdd]
              refine z_nil ?_
              intro vs W hW hv hp hb hf
              obtain ⟨u, g, e7, e5, hu, hk⟩ := hf 8 7 5 _ rfl
              dsimp only
              rw [e7, e5]
              have HB2 := hid (HB1.out.trans (since_below hW HB1.out.size))
              have HK2 := hid (hW.blk HK1.out (fun h => h))
              have HG2 := hid hk
              have HU := hid hu
              clear hv hp hb hf hk hu hW e7 e5
              generalize vs 3 = v3
              generalize vs 4 = v4
              unfold ptr
              obtain ⟨f1, f2⟩ := Blk.cells2 HK2.out
              go_wp2_with (first
                | (with_reducible refine wpList_load61 u g ?_ ?_ ?_
                   · exact rfl
                   · with_reducible exact HG2.out)
                | (with_reducible refine wpList_load61 u g ?_ ?_ ?_
                   · exact rfl
                   · with_reducible exact HG4.out)
                | (with_reducible refine wpList_new52 (0) (0) ?_ ?_ ?_
                   · exact rfl
                   · exact rfl
                   have HB4 := hid (HB3.out.alloc HB3.out.size (.cells #[.int .u64 (0), .int .u64 (0)] 52))
                   have HK4 := hid (HK3.out.alloc (.cells #[.int .u64 (0), .int .u64 (0)] 52))
                   have HG4 := hid (HG3.out.alloc (.cells #[.int .u64 (0), .int .u64 (0)] 52))
                   have HS4 : Hid (Blk (w3.alloc (.cells #[.int .u64 (0), .int .u64 (0)] 52)) w3.heap.size 52 #[.int .u64 (0), .int .u64 (0)]) := Blk.new w3 52 _
                   generalize w3.alloc (.cells #[.int .u64 (0), .int .u64 (0)] 52) = w4 at *
                   obtain ⟨f3, f4⟩ := Blk.cells2 HK4.out
                   obtain ⟨f5, f6⟩ := Blk.cells2 HS4.out)
                | (go_at_call 68
                   refine (where_likeP HU.out W a2).mono ?_
                   rw [HWV.out]
                   rintro e w3 ⟨rfl, hb3⟩
                   have HB3 := hid (HB2.out.trans (hb3.mono HB2.out.size))
                   have HK3 := hid (HK2.out.below hb3 HK2.out.lt)
                   have HG3 := hid (HG2.out.below hb3 HG2.out.lt)
                   clear hb3)
                | (go_at_call 73
                   refine (HBACK.out u HU.out w4).mono ?_
                   rintro e w5 ⟨⟨v, rfl, hv⟩, hb5⟩
                   have HV := hid hv
                   have HB5 := hid (HB4.out.trans (hb5.mono HB4.out.size))
                   clear hv hb5)
                | (with_reducible refine wpList_new61 v ?_ ?_ ?_
                   · exact rfl
                   · exact rfl
                   have HB6 := hid (HB5.out.alloc HB5.out.size (.cells (thC v) 61))
                   have HG6 : Hid (Blk (w5.alloc (.cells (thC v) 61)) w5.heap.size 61 (thC v)) := Blk.new w5 61 _
                   generalize w5.alloc (.cells (thC v) 61) = w6 at *))
              refine wp_region_told 7 nil_ mixed (by kernel_rfl) ?_
              simp only [List.take_succ_cons, List.take_zero, List.drop_succ_cons, List.drop_zero]
              repeat (refine told_val (v := ?_) (fun _ => rfl) (fun vs W hW => ?_) ?_; rotate_left; (focus (clear hW; go_simp; exact loose_val)); simp only [Act.put, List.setIfInBounds_toArray, List.set_cons_zero, List.set_cons_succ, List.nil_append, List.cons_append, Nat.reduceAdd, Leaves.at])
              refine told_val (v := .agg (thC v)) (hw := fun _ => rfl) (hr := fun vs W hW => loose_load61 rfl rfl (hW.blk HG6.out (fun h => h))) ?_
              simp only [Act.put, List.setIfInBounds_toArray, List.set_cons_zero, List.set_cons_succ, List.nil_append, List.cons_append, Nat.reduceAdd, Leaves.at]
              refine told_val (v := .agg (thC emptyT)) (fun _ => rfl) (fun vs W hW => ?_) ?_
              · go_simp
                exact loose_call (empty69_e W)
              simp only [Act.put, List.setIfInBounds_toArray, List.set_cons_zero, List.set_cons_succ, List.nil_append, List.cons_append, Nat.reduceAdd, Leaves.at]
              refine told_val (v := .bool true) (fun _ => rfl) (fun vs W hW => ?_) ?_
              · go_simp
                exact loose_call (same_likeP HV.out W (emptyT_at W))
              simp only [Act.put, List.setIfInBounds_toArray, List.set_cons_zero, List.set_cons_succ, List.nil_append, List.cons_append, Nat.reduceAdd, Leaves.at]
              repeat (refine told_val (v := ?_) (fun _ => rfl) (fun vs W hW => ?_) ?_; rotate_left; (focus (clear hW; go_simp; exact loose_val)); simp only [Act.put, List.setIfInBounds_toArray, List.set_cons_zero, List.set_cons_succ, List.nil_append, List.cons_append, Nat.reduceAdd, Leaves.at])
              refine told_nil ?_
              intro vs W7 hW7 hok hap
              clear hap
              dsimp only
              have HB7 := hid (HB6.out.trans (since_below hW7 HB6.out.size))
              clear hok hW7
              go_wp2_with fail
              go_ret
              exact ⟨rfl, HB7.out⟩
            · have h2' : (b1 == 0) = false := by simpa using h2
              have HWV := hid (whereV_hit (i := a0) (x := a2) h0 h4 0 b1 hA0 hB1 hj (by show (_ && _) = _; simp [h2]))
              generalize setSlot emptyT a0 (0, b1) = tt at *
              go_enter Try.func19, Try.ntmps19
              go_wp2_with (first
                | (go_at_call 70
                   refine (alive70 _).mono ?_
                   rintro e w1 ⟨rfl, hb1⟩
                   have HB1 := hid (((Below.refl _ w).alloc (Nat.le_refl _) _).trans (hb1.mono (by simp)))
                   have HK1 := hid ((Blk.new w 52 _).below hb1 (by simp))
                   clear hb1))
              refine wp_region_toldz 9 mixed (by kernel_rfl) ?_
              simp only [List.take_succ_cons, List.take_zero, List.drop_succ_cons, List.drop_zero]
              refine z_val (v := .agg (thC emptyT)) (fun _ => rfl) (fun vs W hW => ?_) ?_
              · go_simp
                exact loose_call (empty69_e W)
              simp only [Act.put, List.setIfInBounds_toArray, List.set_cons_zero, List.set_cons_succ, List.nil_append, List.cons_append, Nat.reduceAdd]
              refine z_val (v := ?_) (fun _ => rfl) (fun vs W hW => ?_) ?_
              rotate_left
              · clear hW
                go_simp
                exact loose_val
              simp only [Act.put, List.setIfInBounds_toArray, List.set_cons_zero, List.set_cons_succ, List.nil_append, List.cons_append, Nat.reduceAdd]
              refine z_val (v := .agg #[.int .u64 0, .int .u64 b1]) (fun _ => rfl) (fun vs W hW => loose_load (cur := [.int .u64 0, .int .u64 b1]) (vs := [.int .u64 0, .int .u64 b1]) rfl rfl (hW.blk HK1.out (fun h => h)) (agg_of_struct Try.underlying52) size52 rfl) ?_
              simp only [Act.put, List.setIfInBounds_toArray, List.set_cons_zero, List.set_cons_succ, List.nil_append, List.cons_append, Nat.reduceAdd]
              refine z_part (RetT tt 0) RetT.steady (fun _ => rfl) (fun vs W Good hW hd => ?_) ?_
              · clear hd
                go_simp
                exact z_callT (HMAP.out W)
              simp only [Act.put, List.setIfInBounds_toArray, List.set_cons_zero, List.set_cons_succ, List.nil_append, List.cons_append, Nat.reduceAdd]
              refine z_part (RetT tt 0) RetT.steady (fun _ => rfl) (fun vs W Good hW hd => z_movT (hd ⟨3, .data⟩ (by simp) rfl _ rfl)) ?_
              simp only [Act.put, List.setIfInBounds_toArray, List.set_cons_zero, List.set_cons_succ, List.nil_append, List.cons_append, Nat.reduceAdd]
              refine z_part (GotT tt) GotT.steady (fun _ => rfl) (fun vs W Good hW hd => z_thT rfl rfl (hd ⟨4, .data⟩ (by simp) rfl _ rfl)) ?_
              simp only [Act.put, List.setIfInBounds_toArray, List.set_cons_zero, List.set_cons_succ, List.nil_append, List.cons_append, Nat.reduceAdd]
              refine z_val' (v := .int .i64 0) (fun _ => rfl) (fun vs W Good hW hd => z_numT rfl rfl (hd ⟨4, .data⟩ (by simp) rfl _ rfl)) ?_
              simp only [Act.put, List.setIfInBounds_toArray, List.set_cons_zero, List.set_cons_succ, List.nil_append, List.cons_append, Nat.reduceAdd]
              refine z_box 61 (thC zeroTh) (fun _ => rfl) (fun vs W hW => alloc_run61 rfl) ?_
              simp only [Act.put, List.setIfInBounds_toArray, List.set_cons_zero, List.set_cons_succ, List.nil_append, List.cons_append, Nat.reduceAdd]
              refine z_fill 7 5 61 (thC zeroTh) (PutT tt) rfl PutT.steady (by kernel_rfl) (fun _ => rfl) (fun vs W Good hW hd g hg hk => z_putT rfl rfl hg rfl hk (hd ⟨5, .data⟩ (by simp) rfl _ rfl)) ?_
              simp only [Act.put, List.setIfInBounds_toArray, List.set_cons_zero, List.set_cons_succ, List.nil_append, List.cons_append, Nat.reduceAdd]
              refine z_nil ?_
              intro vs W hW hv hp hb hf
              obtain ⟨u, g, e7, e5, hu, hk⟩ := hf 8 7 5 _ rfl
              dsimp only
              rw [e7, e5]
              have HB2 := hid (HB1.out.trans (since_below hW HB1.out.size))
              have HK2 := hid (hW.blk HK1.out (fun h => h))
              have HG2 := hid hk
              have HU := hid hu
              clear hv hp hb hf hk hu hW e7 e5
              generalize vs 3 = v3
              generalize vs 4 = v4
              unfold ptr
              obtain ⟨f1, f2⟩ := Blk.cells2 HK2.out
              go_wp2_with (first
                | (with_reducible refine wpList_load61 u g ?_ ?_ ?_
                   · exact rfl
                   · with_reducible exact HG2.out)
                | (with_reducible refine wpList_load61 u g ?_ ?_ ?_
                   · exact rfl
                   · with_reducible exact HG4.out)
                | (with_reducible refine wpList_new52 (0) (b1) ?_ ?_ ?_
                   · exact rfl
                   · exact rfl
                   have HB4 := hid (HB3.out.alloc HB3.out.size (.cells #[.int .u64 (0), .int .u64 (b1)] 52))
                   have HK4 := hid (HK3.out.alloc (.cells #[.int .u64 (0), .int .u64 (b1)] 52))
                   have HG4 := hid (HG3.out.alloc (.cells #[.int .u64 (0), .int .u64 (b1)] 52))
                   have HS4 : Hid (Blk (w3.alloc (.cells #[.int .u64 (0), .int .u64 (b1)] 52)) w3.heap.size 52 #[.int .u64 (0), .int .u64 (b1)]) := Blk.new w3 52 _
                   generalize w3.alloc (.cells #[.int .u64 (0), .int .u64 (b1)] 52) = w4 at *
                   obtain ⟨f3, f4⟩ := Blk.cells2 HK4.out
                   obtain ⟨f5, f6⟩ := Blk.cells2 HS4.out)
                | (go_at_call 68
                   refine (where_likeP HU.out W a2).mono ?_
                   rw [HWV.out]
                   rintro e w3 ⟨rfl, hb3⟩
                   have HB3 := hid (HB2.out.trans (hb3.mono HB2.out.size))
                   have HK3 := hid (HK2.out.below hb3 HK2.out.lt)
                   have HG3 := hid (HG2.out.below hb3 HG2.out.lt)
                   clear hb3)
                | (go_at_call 73
                   refine (HBACK.out u HU.out w4).mono ?_
                   rintro e w5 ⟨⟨v, rfl, hv⟩, hb5⟩
                   have HV := hid hv
                   have HB5 := hid (HB4.out.trans (hb5.mono HB4.out.size))
                   clear hv hb5)
                | (with_reducible refine wpList_new61 v ?_ ?_ ?_
                   · exact rfl
                   · exact rfl
                   have HB6 := hid (HB5.out.alloc HB5.out.size (.cells (thC v) 61))
                   have HG6 : Hid (Blk (w5.alloc (.cells (thC v) 61)) w5.heap.size 61 (thC v)) := Blk.new w5 61 _
                   generalize w5.alloc (.cells (thC v) 61) = w6 at *))
              refine wp_region_told 7 nil_ mixed (by kernel_rfl) ?_
              simp only [List.take_succ_cons, List.take_zero, List.drop_succ_cons, List.drop_zero]
              repeat (refine told_val (v := ?_) (fun _ => rfl) (fun vs W hW => ?_) ?_; rotate_left; (focus (clear hW; go_simp; exact loose_val)); simp only [Act.put, List.setIfInBounds_toArray, List.set_cons_zero, List.set_cons_succ, List.nil_append, List.cons_append, Nat.reduceAdd, Leaves.at])
              refine told_val (v := .agg (thC v)) (hw := fun _ => rfl) (hr := fun vs W hW => loose_load61 rfl rfl (hW.blk HG6.out (fun h => h))) ?_
              simp only [Act.put, List.setIfInBounds_toArray, List.set_cons_zero, List.set_cons_succ, List.nil_append, List.cons_append, Nat.reduceAdd, Leaves.at]
              refine told_val (v := .agg (thC emptyT)) (fun _ => rfl) (fun vs W hW => ?_) ?_
              · go_simp
                exact loose_call (empty69_e W)
              simp only [Act.put, List.setIfInBounds_toArray, List.set_cons_zero, List.set_cons_succ, List.nil_append, List.cons_append, Nat.reduceAdd, Leaves.at]
              refine told_val (v := .bool true) (fun _ => rfl) (fun vs W hW => ?_) ?_
              · go_simp
                exact loose_call (same_likeP HV.out W (emptyT_at W))
              simp only [Act.put, List.setIfInBounds_toArray, List.set_cons_zero, List.set_cons_succ, List.nil_append, List.cons_append, Nat.reduceAdd, Leaves.at]
              repeat (refine told_val (v := ?_) (fun _ => rfl) (fun vs W hW => ?_) ?_; rotate_left; (focus (clear hW; go_simp; exact loose_val)); simp only [Act.put, List.setIfInBounds_toArray, List.set_cons_zero, List.set_cons_succ, List.nil_append, List.cons_append, Nat.reduceAdd, Leaves.at])
              refine told_nil ?_
              intro vs W7 hW7 hok hap
              clear hap
              dsimp only
              have HB7 := hid (HB6.out.trans (since_below hW7 HB6.out.size))
              clear hok hW7
              go_wp2_with fail
              go_ret
              exact ⟨rfl, HB7.out⟩
          · have h1' : (a1 == 0) = false := by simpa using h1
            have HWV := hid (whereV_hit (i := a0) (x := a2) h0 h4 a1 b1 hA0 hB1 hj (by show (_ && _) = _; simp [h1]))
            generalize setSlot emptyT a0 (a1, b1) = tt at *
            go_enter Try.func19, Try.ntmps19
            go_wp2_with (first
              | (go_at_call 70
                 refine (alive70 _).mono ?_
                 rintro e w1 ⟨rfl, hb1⟩
                 have HB1 := hid (((Below.refl _ w).alloc (Nat.le_refl _) _).trans (hb1.mono (by simp)))
                 have HK1 := hid ((Blk.new w 52 _).below hb1 (by simp))
                 clear hb1))
            refine wp_region_toldz 9 mixed (by kernel_rfl) ?_
            simp only [List.take_succ_cons, List.take_zero, List.drop_succ_cons, List.drop_zero]
            refine z_val (v := .agg (thC emptyT)) (fun _ => rfl) (fun vs W hW => ?_) ?_
            · go_simp
              exact loose_call (empty69_e W)
            simp only [Act.put, List.setIfInBounds_toArray, List.set_cons_zero, List.set_cons_succ, List.nil_append, List.cons_append, Nat.reduceAdd]
            refine z_val (v := ?_) (fun _ => rfl) (fun vs W hW => ?_) ?_
            rotate_left
            · clear hW
              go_simp
              exact loose_val
            simp only [Act.put, List.setIfInBounds_toArray, List.set_cons_zero, List.set_cons_succ, List.nil_append, List.cons_append, Nat.reduceAdd]
            refine z_val (v := .agg #[.int .u64 a1, .int .u64 b1]) (fun _ => rfl) (fun vs W hW => loose_load (cur := [.int .u64 a1, .int .u64 b1]) (vs := [.int .u64 a1, .int .u64 b1]) rfl rfl (hW.blk HK1.out (fun h => h)) (agg_of_struct Try.underlying52) size52 rfl) ?_
            simp only [Act.put, List.setIfInBounds_toArray, List.set_cons_zero, List.set_cons_succ, List.nil_append, List.cons_append, Nat.reduceAdd]
            refine z_part (RetT tt 0) RetT.steady (fun _ => rfl) (fun vs W Good hW hd => ?_) ?_
            · clear hd
              go_simp
              exact z_callT (HMAP.out W)
            simp only [Act.put, List.setIfInBounds_toArray, List.set_cons_zero, List.set_cons_succ, List.nil_append, List.cons_append, Nat.reduceAdd]
            refine z_part (RetT tt 0) RetT.steady (fun _ => rfl) (fun vs W Good hW hd => z_movT (hd ⟨3, .data⟩ (by simp) rfl _ rfl)) ?_
            simp only [Act.put, List.setIfInBounds_toArray, List.set_cons_zero, List.set_cons_succ, List.nil_append, List.cons_append, Nat.reduceAdd]
            refine z_part (GotT tt) GotT.steady (fun _ => rfl) (fun vs W Good hW hd => z_thT rfl rfl (hd ⟨4, .data⟩ (by simp) rfl _ rfl)) ?_
            simp only [Act.put, List.setIfInBounds_toArray, List.set_cons_zero, List.set_cons_succ, List.nil_append, List.cons_append, Nat.reduceAdd]
            refine z_val' (v := .int .i64 0) (fun _ => rfl) (fun vs W Good hW hd => z_numT rfl rfl (hd ⟨4, .data⟩ (by simp) rfl _ rfl)) ?_
            simp only [Act.put, List.setIfInBounds_toArray, List.set_cons_zero, List.set_cons_succ, List.nil_append, List.cons_append, Nat.reduceAdd]
            refine z_box 61 (thC zeroTh) (fun _ => rfl) (fun vs W hW => alloc_run61 rfl) ?_
            simp only [Act.put, List.setIfInBounds_toArray, List.set_cons_zero, List.set_cons_succ, List.nil_append, List.cons_append, Nat.reduceAdd]
            refine z_fill 7 5 61 (thC zeroTh) (PutT tt) rfl PutT.steady (by kernel_rfl) (fun _ => rfl) (fun vs W Good hW hd g hg hk => z_putT rfl rfl hg rfl hk (hd ⟨5, .data⟩ (by simp) rfl _ rfl)) ?_
            simp only [Act.put, List.setIfInBounds_toArray, List.set_cons_zero, List.set_cons_succ, List.nil_append, List.cons_append, Nat.reduceAdd]
            refine z_nil ?_
            intro vs W hW hv hp hb hf
            obtain ⟨u, g, e7, e5, hu, hk⟩ := hf 8 7 5 _ rfl
            dsimp only
            rw [e7, e5]
            have HB2 := hid (HB1.out.trans (since_below hW HB1.out.size))
            have HK2 := hid (hW.blk HK1.out (fun h => h))
            have HG2 := hid hk
            have HU := hid hu
            clear hv hp hb hf hk hu hW e7 e5
            generalize vs 3 = v3
            generalize vs 4 = v4
            unfold ptr
            obtain ⟨f1, f2⟩ := Blk.cells2 HK2.out
            go_wp2_with (first
              | (with_reducible refine wpList_load61 u g ?_ ?_ ?_
                 · exact rfl
                 · with_reducible exact HG2.out)
              | (with_reducible refine wpList_load61 u g ?_ ?_ ?_
                 · exact rfl
                 · with_reducible exact HG4.out)
              | (with_reducible refine wpList_new52 (a1) (b1) ?_ ?_ ?_
                 · exact rfl
                 · exact rfl
                 have HB4 := hid (HB3.out.alloc HB3.out.size (.cells #[.int .u64 (a1), .int .u64 (b1)] 52))
                 have HK4 := hid (HK3.out.alloc (.cells #[.int .u64 (a1), .int .u64 (b1)] 52))
                 have HG4 := hid (HG3.out.alloc (.cells #[.int .u64 (a1), .int .u64 (b1)] 52))
                 have HS4 : Hid (Blk (w3.alloc (.cells #[.int .u64 (a1), .int .u64 (b1)] 52)) w3.heap.size 52 #[.int .u64 (a1), .int .u64 (b1)]) := Blk.new w3 52 _
                 generalize w3.alloc (.cells #[.int .u64 (a1), .int .u64 (b1)] 52) = w4 at *
                 obtain ⟨f3, f4⟩ := Blk.cells2 HK4.out
                 obtain ⟨f5, f6⟩ := Blk.cells2 HS4.out)
              | (go_at_call 68
                 refine (where_likeP HU.out W a2).mono ?_
                 rw [HWV.out]
                 rintro e w3 ⟨rfl, hb3⟩
                 have HB3 := hid (HB2.out.trans (hb3.mono HB2.out.size))
                 have HK3 := hid (HK2.out.below hb3 HK2.out.lt)
                 have HG3 := hid (HG2.out.below hb3 HG2.out.lt)
                 clear hb3)
              | (go_at_call 73
                 refine (HBACK.out u HU.out w4).mono ?_
                 rintro e w5 ⟨⟨v, rfl, hv⟩, hb5⟩
                 have HV := hid hv
                 have HB5 := hid (HB4.out.trans (hb5.mono HB4.out.size))
                 clear hv hb5)
              | (with_reducible refine wpList_new61 v ?_ ?_ ?_
                 · exact rfl
                 · exact rfl
                 have HB6 := hid (HB5.out.alloc HB5.out.size (.cells (thC v) 61))
                 have HG6 : Hid (Blk (w5.alloc (.cells (thC v) 61)) w5.heap.size 61 (thC v)) := Blk.new w5 61 _
                 generalize w5.alloc (.cells (thC v) 61) = w6 at *))
            refine wp_region_told 7 nil_ mixed (by kernel_rfl) ?_
            simp only [List.take_succ_cons, List.take_zero, List.drop_succ_cons, List.drop_zero]
            repeat (refine told_val (v := ?_) (fun _ => rfl) (fun vs W hW => ?_) ?_; rotate_left; (focus (clear hW; go_simp; exact loose_val)); simp only [Act.put, List.setIfInBounds_toArray, List.set_cons_zero, List.set_cons_succ, List.nil_append, List.cons_append, Nat.reduceAdd, Leaves.at])
            refine told_val (v := .agg (thC v)) (hw := fun _ => rfl) (hr := fun vs W hW => loose_load61 rfl rfl (hW.blk HG6.out (fun h => h))) ?_
            simp only [Act.put, List.setIfInBounds_toArray, List.set_cons_zero, List.set_cons_succ, List.nil_append, List.cons_append, Nat.reduceAdd, Leaves.at]
            refine told_val (v := .agg (thC emptyT)) (fun _ => rfl) (fun vs W hW => ?_) ?_
            · go_simp
              exact loose_call (empty69_e W)
            simp only [Act.put, List.setIfInBounds_toArray, List.set_cons_zero, List.set_cons_succ, List.nil_append, List.cons_append, Nat.reduceAdd, Leaves.at]
            refine told_val (v := .bool true) (fun _ => rfl) (fun vs W hW => ?_) ?_
            · go_simp
              exact loose_call (same_likeP HV.out W (emptyT_at W))
            simp only [Act.put, List.setIfInBounds_toArray, List.set_cons_zero, List.set_cons_succ, List.nil_append, List.cons_append, Nat.reduceAdd, Leaves.at]
            repeat (refine told_val (v := ?_) (fun _ => rfl) (fun vs W hW => ?_) ?_; rotate_left; (focus (clear hW; go_simp; exact loose_val)); simp only [Act.put, List.setIfInBounds_toArray, List.set_cons_zero, List.set_cons_succ, List.nil_append, List.cons_append, Nat.reduceAdd, Leaves.at])
            refine told_nil ?_
            intro vs W7 hW7 hok hap
            clear hap
            dsimp only
            have HB7 := hid (HB6.out.trans (since_below hW7 HB6.out.size))
            clear hok hW7
            go_wp2_with fail
            go_ret
            exact ⟨rfl, HB7.out⟩
        · have hj' : (a2 / 128 == a0) = false := by simpa using hj
          have HWV := hid (whereV_other (i := a0) (x := a2) h0 h4 (a1, b1) hA0 hB1 hj)
          generalize setSlot emptyT a0 (a1, b1) = tt at *
          go_enter Try.func19, Try.ntmps19
          go_wp2_with (first
            | (go_at_call 70
               refine (alive70 _).mono ?_
               rintro e w1 ⟨rfl, hb1⟩
               have HB1 := hid (((Below.refl _ w).alloc (Nat.le_refl _) _).trans (hb1.mono (by simp)))
               have HK1 := hid ((Blk.new w 52 _).below hb1 (by simp))
               clear hb1))
          refine wp_region_toldz 9 mixed (by kernel_rfl) ?_
          simp only [List.take_succ_cons, List.take_zero, List.drop_succ_cons, List.drop_zero]
          refine z_val (v := .agg (thC emptyT)) (fun _ => rfl) (fun vs W hW => ?_) ?_
          · go_simp
            exact loose_call (empty69_e W)
          simp only [Act.put, List.setIfInBounds_toArray, List.set_cons_zero, List.set_cons_succ, List.nil_append, List.cons_append, Nat.reduceAdd]
          refine z_val (v := ?_) (fun _ => rfl) (fun vs W hW => ?_) ?_
          rotate_left
          · clear hW
            go_simp
            exact loose_val
          simp only [Act.put, List.setIfInBounds_toArray, List.set_cons_zero, List.set_cons_succ, List.nil_append, List.cons_append, Nat.reduceAdd]
          refine z_val (v := .agg #[.int .u64 a1, .int .u64 b1]) (fun _ => rfl) (fun vs W hW => loose_load (cur := [.int .u64 a1, .int .u64 b1]) (vs := [.int .u64 a1, .int .u64 b1]) rfl rfl (hW.blk HK1.out (fun h => h)) (agg_of_struct Try.underlying52) size52 rfl) ?_
          simp only [Act.put, List.setIfInBounds_toArray, List.set_cons_zero, List.set_cons_succ, List.nil_append, List.cons_append, Nat.reduceAdd]
          refine z_part (RetT tt 0) RetT.steady (fun _ => rfl) (fun vs W Good hW hd => ?_) ?_
          · clear hd
            go_simp
            exact z_callT (HMAP.out W)
          simp only [Act.put, List.setIfInBounds_toArray, List.set_cons_zero, List.set_cons_succ, List.nil_append, List.cons_append, Nat.reduceAdd]
          refine z_part (RetT tt 0) RetT.steady (fun _ => rfl) (fun vs W Good hW hd => z_movT (hd ⟨3, .data⟩ (by simp) rfl _ rfl)) ?_
          simp only [Act.put, List.setIfInBounds_toArray, List.set_cons_zero, List.set_cons_succ, List.nil_append, List.cons_append, Nat.reduceAdd]
          refine z_part (GotT tt) GotT.steady (fun _ => rfl) (fun vs W Good hW hd => z_thT rfl rfl (hd ⟨4, .data⟩ (by simp) rfl _ rfl)) ?_
          simp only [Act.put, List.setIfInBounds_toArray, List.set_cons_zero, List.set_cons_succ, List.nil_append, List.cons_append, Nat.reduceAdd]
          refine z_val' (v := .int .i64 0) (fun _ => rfl) (fun vs W Good hW hd => z_numT rfl rfl (hd ⟨4, .data⟩ (by simp) rfl _ rfl)) ?_
          simp only [Act.put, List.setIfInBounds_toArray, List.set_cons_zero, List.set_cons_succ, List.nil_append, List.cons_append, Nat.reduceAdd]
          refine z_box 61 (thC zeroTh) (fun _ => rfl) (fun vs W hW => alloc_run61 rfl) ?_
          simp only [Act.put, List.setIfInBounds_toArray, List.set_cons_zero, List.set_cons_succ, List.nil_append, List.cons_append, Nat.reduceAdd]
          refine z_fill 7 5 61 (thC zeroTh) (PutT tt) rfl PutT.steady (by kernel_rfl) (fun _ => rfl) (fun vs W Good hW hd g hg hk => z_putT rfl rfl hg rfl hk (hd ⟨5, .data⟩ (by simp) rfl _ rfl)) ?_
          simp only [Act.put, List.setIfInBounds_toArray, List.set_cons_zero, List.set_cons_succ, List.nil_append, List.cons_append, Nat.reduceAdd]
          refine z_nil ?_
          intro vs W hW hv hp hb hf
          obtain ⟨u, g, e7, e5, hu, hk⟩ := hf 8 7 5 _ rfl
          dsimp only
          rw [e7, e5]
          have HB2 := hid (HB1.out.trans (since_below hW HB1.out.size))
          have HK2 := hid (hW.blk HK1.out (fun h => h))
          have HG2 := hid hk
          have HU := hid hu
          clear hv hp hb hf hk hu hW e7 e5
          generalize vs 3 = v3
          generalize vs 4 = v4
          unfold ptr
          obtain ⟨f1, f2⟩ := Blk.cells2 HK2.out
          go_wp2_with (first
            | (with_reducible refine wpList_load61 u g ?_ ?_ ?_
               · exact rfl
               · with_reducible exact HG2.out)
            | (with_reducible refine wpList_load61 u g ?_ ?_ ?_
               · exact rfl
               · with_reducible exact HG4.out)
            | (with_reducible refine wpList_new52 (0) (0) ?_ ?_ ?_
               · exact rfl
               · exact rfl
               have HB4 := hid (HB3.out.alloc HB3.out.size (.cells #[.int .u64 (0), .int .u64 (0)] 52))
               have HK4 := hid (HK3.out.alloc (.cells #[.int .u64 (0), .int .u64 (0)] 52))
               have HG4 := hid (HG3.out.alloc (.cells #[.int .u64 (0), .int .u64 (0)] 52))
               have HS4 : Hid (Blk (w3.alloc (.cells #[.int .u64 (0), .int .u64 (0)] 52)) w3.heap.size 52 #[.int .u64 (0), .int .u64 (0)]) := Blk.new w3 52 _
               generalize w3.alloc (.cells #[.int .u64 (0), .int .u64 (0)] 52) = w4 at *
               obtain ⟨f3, f4⟩ := Blk.cells2 HK4.out
               obtain ⟨f5, f6⟩ := Blk.cells2 HS4.out)
            | (go_at_call 68
               refine (where_likeP HU.out W a2).mono ?_
               rw [HWV.out]
               rintro e w3 ⟨rfl, hb3⟩
               have HB3 := hid (HB2.out.trans (hb3.mono HB2.out.size))
               have HK3 := hid (HK2.out.below hb3 HK2.out.lt)
               have HG3 := hid (HG2.out.below hb3 HG2.out.lt)
               clear hb3)
            | (go_at_call 73
               refine (HBACK.out u HU.out w4).mono ?_
               rintro e w5 ⟨⟨v, rfl, hv⟩, hb5⟩
               have HV := hid hv
               have HB5 := hid (HB4.out.trans (hb5.mono HB4.out.size))
               clear hv hb5)
            | (with_reducible refine wpList_new61 v ?_ ?_ ?_
               · exact rfl
               · exact rfl
               have HB6 := hid (HB5.out.alloc HB5.out.size (.cells (thC v) 61))
               have HG6 : Hid (Blk (w5.alloc (.cells (thC v) 61)) w5.heap.size 61 (thC v)) := Blk.new w5 61 _
               generalize w5.alloc (.cells (thC v) 61) = w6 at *))
          refine wp_region_told 7 nil_ mixed (by kernel_rfl) ?_
          simp only [List.take_succ_cons, List.take_zero, List.drop_succ_cons, List.drop_zero]
          repeat (refine told_val (v := ?_) (fun _ => rfl) (fun vs W hW => ?_) ?_; rotate_left; (focus (clear hW; go_simp; exact loose_val)); simp only [Act.put, List.setIfInBounds_toArray, List.set_cons_zero, List.set_cons_succ, List.nil_append, List.cons_append, Nat.reduceAdd, Leaves.at])
          refine told_val (v := .agg (thC v)) (hw := fun _ => rfl) (hr := fun vs W hW => loose_load61 rfl rfl (hW.blk HG6.out (fun h => h))) ?_
          simp only [Act.put, List.setIfInBounds_toArray, List.set_cons_zero, List.set_cons_succ, List.nil_append, List.cons_append, Nat.reduceAdd, Leaves.at]
          refine told_val (v := .agg (thC emptyT)) (fun _ => rfl) (fun vs W hW => ?_) ?_
          · go_simp
            exact loose_call (empty69_e W)
          simp only [Act.put, List.setIfInBounds_toArray, List.set_cons_zero, List.set_cons_succ, List.nil_append, List.cons_append, Nat.reduceAdd, Leaves.at]
          refine told_val (v := .bool true) (fun _ => rfl) (fun vs W hW => ?_) ?_
          · go_simp
            exact loose_call (same_likeP HV.out W (emptyT_at W))
          simp only [Act.put, List.setIfInBounds_toArray, List.set_cons_zero, List.set_cons_succ, List.nil_append, List.cons_append, Nat.reduceAdd, Leaves.at]
          repeat (refine told_val (v := ?_) (fun _ => rfl) (fun vs W hW => ?_) ?_; rotate_left; (focus (clear hW; go_simp; exact loose_val)); simp only [Act.put, List.setIfInBounds_toArray, List.set_cons_zero, List.set_cons_succ, List.nil_append, List.cons_append, Nat.reduceAdd, Leaves.at])
          refine told_nil ?_
          intro vs W7 hW7 hok hap
          clear hap
          dsimp only
          have HB7 := hid (HB6.out.trans (since_below hW7 HB6.out.size))
          clear hok hW7
          go_wp2_with fail
          go_ret
          exact ⟨rfl, HB7.out⟩
  · rw [if_neg hm, if_neg hm] at hmap
    have HMAP := hid hmap
    clear hmap hm x1 y1 b0 b2
    go_enter Try.func19, Try.ntmps19
    go_wp2_with (first
      | (go_at_call 70
         refine (alive70 _).mono ?_
         rintro e w1 ⟨rfl, hb1⟩
         have HB1 := hid (((Below.refl _ w).alloc (Nat.le_refl _) _).trans (hb1.mono (by simp)))
         have HK1 := hid ((Blk.new w 52 _).below hb1 (by simp))
         clear hb1))
    refine wp_region_toldz 9 mixed (by kernel_rfl) ?_
    simp only [List.take_succ_cons, List.take_zero, List.drop_succ_cons, List.drop_zero]
    refine z_val (v := .agg (thC emptyT)) (fun _ => rfl) (fun vs W hW => ?_) ?_
    · go_simp
      exact loose_call (empty69_e W)
    simp only [Act.put, List.setIfInBounds_toArray, List.set_cons_zero, List.set_cons_succ, List.nil_append, List.cons_append, Nat.reduceAdd]
    refine z_val (v := ?_) (fun _ => rfl) (fun vs W hW => ?_) ?_
    rotate_left
    · clear hW
      go_simp
      exact loose_val
    simp only [Act.put, List.setIfInBounds_toArray, List.set_cons_zero, List.set_cons_succ, List.nil_append, List.cons_append, Nat.reduceAdd]
    refine z_val (v := .agg #[.int .u64 a1, .int .u64 b1]) (fun _ => rfl) (fun vs W hW => loose_load (cur := [.int .u64 a1, .int .u64 b1]) (vs := [.int .u64 a1, .int .u64 b1]) rfl rfl (hW.blk HK1.out (fun h => h)) (agg_of_struct Try.underlying52) size52 rfl) ?_
    simp only [Act.put, List.setIfInBounds_toArray, List.set_cons_zero, List.set_cons_succ, List.nil_append, List.cons_append, Nat.reduceAdd]
    refine z_part (RetT emptyT 171) RetT.steady (fun _ => rfl) (fun vs W Good hW hd => ?_) ?_
    · clear hd
      go_simp
      exact z_callT (HMAP.out W)
    simp only [Act.put, List.setIfInBounds_toArray, List.set_cons_zero, List.set_cons_succ, List.nil_append, List.cons_append, Nat.reduceAdd]
    refine z_part (RetT emptyT 171) RetT.steady (fun _ => rfl) (fun vs W Good hW hd => z_movT (hd ⟨3, .data⟩ (by simp) rfl _ rfl)) ?_
    simp only [Act.put, List.setIfInBounds_toArray, List.set_cons_zero, List.set_cons_succ, List.nil_append, List.cons_append, Nat.reduceAdd]
    refine z_part (GotT emptyT) GotT.steady (fun _ => rfl) (fun vs W Good hW hd => z_thT rfl rfl (hd ⟨4, .data⟩ (by simp) rfl _ rfl)) ?_
    simp only [Act.put, List.setIfInBounds_toArray, List.set_cons_zero, List.set_cons_succ, List.nil_append, List.cons_append, Nat.reduceAdd]
    refine z_val' (v := .int .i64 171) (fun _ => rfl) (fun vs W Good hW hd => z_numT rfl rfl (hd ⟨4, .data⟩ (by simp) rfl _ rfl)) ?_
    simp only [Act.put, List.setIfInBounds_toArray, List.set_cons_zero, List.set_cons_succ, List.nil_append, List.cons_append, Nat.reduceAdd]
    refine z_box 61 (thC zeroTh) (fun _ => rfl) (fun vs W hW => alloc_run61 rfl) ?_
    simp only [Act.put, List.setIfInBounds_toArray, List.set_cons_zero, List.set_cons_succ, List.nil_append, List.cons_append, Nat.reduceAdd]
    refine z_fill 7 5 61 (thC zeroTh) (PutT emptyT) rfl PutT.steady (by kernel_rfl) (fun _ => rfl) (fun vs W Good hW hd g hg hk => z_putT rfl rfl hg rfl hk (hd ⟨5, .data⟩ (by simp) rfl _ rfl)) ?_
    simp only [Act.put, List.setIfInBounds_toArray, List.set_cons_zero, List.set_cons_succ, List.nil_append, List.cons_append, Nat.reduceAdd]
    refine z_nil ?_
    intro vs W hW hv hp hb hf
    obtain ⟨u, g, e7, e5, hu, hk⟩ := hf 8 7 5 _ rfl
    dsimp only
    rw [e7, e5]
    have HB2 := hid (HB1.out.trans (since_below hW HB1.out.size))
    have HK2 := hid (hW.blk HK1.out (fun h => h))
    have HG2 := hid hk
    have HU := hid hu
    clear hv hp hb hf hk hu hW e7 e5
    generalize vs 3 = v3
    generalize vs 4 = v4
    unfold ptr
    go_wp2_with fail
    refine wp_region_told 3 nil_ mixed (by kernel_rfl) ?_
    simp only [List.take_succ_cons, List.take_zero, List.drop_succ_cons, List.drop_zero]
    refine told_val (v := .agg (thC u)) (hw := fun _ => rfl) (hr := fun vs W hW => loose_load61 rfl rfl (hW.blk HG2.out (fun h => h))) ?_
    simp only [Act.put, List.setIfInBounds_toArray, List.set_cons_zero, List.set_cons_succ, List.nil_append, List.cons_append, Nat.reduceAdd, Leaves.at]
    refine told_val (v := .agg (thC emptyT)) (fun _ => rfl) (fun vs W hW => ?_) ?_
    · go_simp
      exact loose_call (empty69_e W)
    simp only [Act.put, List.setIfInBounds_toArray, List.set_cons_zero, List.set_cons_succ, List.nil_append, List.cons_append, Nat.reduceAdd, Leaves.at]
    refine told_val (v := .bool true) (fun _ => rfl) (fun vs W hW => ?_) ?_
    · go_simp
      exact loose_call (same_likeP HU.out W (emptyT_at W))
    simp only [Act.put, List.setIfInBounds_toArray, List.set_cons_zero, List.set_cons_succ, List.nil_append, List.cons_append, Nat.reduceAdd, Leaves.at]
    refine told_nil ?_
    intro vs W2 hW2 hok hap
    clear hap
    dsimp only
    have HB3 := hid (HB2.out.trans (since_below hW2 HB2.out.size))
    clear hok hW2
    go_wp2_with fail
    go_ret
    exact ⟨rfl, HB3.out⟩

theorem fits {H : Type} : ∀ ds : List (DataW H), ds.length = Try.f19.params.toList.length → Rows.spaceWindowsSpec.fn H ds = { results := [.lit (.bool true)], args := ds } := by
  intro ds h
  rw [Try.params19] at h
  match ds, h with
  | [e0, e1, e2], _ => rfl

set_option maxRecDepth 100000 in
theorem lifted (os : Os) (started : os.Started) (H : Type) (enc : TypeId × Value → H) :
    ReturnsInHanded {} Try.checked os 19 .any (Rows.spaceWindowsSpec.pre6 enc Try.prog Try.f19 Rows.spaceWindowsRow.domain false) (Rows.spaceWindowsSpec.post enc Try.prog Try.f19 false true false false) := by
  refine returnsInHanded_of_change_sized (C := Try.checked) own started (by kernel_rfl) Try.func19
    (ChangeSpec.witness6 (enc := enc) (C := Try.checked) false ⟨#[], #[.int .i64 0, .agg #[.int .u64 0, .int .u64 0], .int .i64 0], []⟩ 8 (by kernel_rfl) (by kernel_rfl) (by kernel_rfl) (by kernel_rfl)) ?_
  intro W base args ds gs before hval0 hW hcnd hsz0 _
  have hval : ∀ (j : Nat) t v, Try.f19.params[j]? = some t → args[j]? = some v → Value.okWide Try.prog W .any base t v := hval0
  have hpost : ∀ W', Below W.heap.size W W' → Rows.spaceWindowsSpec.post enc Try.prog Try.f19 false true false false W args (.bool true) W' := fun W' hb =>
    law_post rfl rfl Try.underlying4 laidOut (by kernel_rfl) fits hW hb
  obtain ⟨p, q, hA0, hV, rfl, hfz, hnd⟩ := hW
  have hA : DataW.TrodAll enc Try.prog W 0 (fun _ => true) true Try.f19.params.toList args.toList ds p := hA0
  rw [Try.params19] at hA hval
  obtain ⟨rfl, rfl⟩ := trodVars_none hV
  obtain ⟨v0, vs0, dd0, ds0, p0, q0, hargs, rfl, rfl, h0, hr0⟩ := trodAll_cons hA
  obtain ⟨v1, vs1, dd1, ds1, p1, q1, rfl, rfl, rfl, h1, hr1⟩ := trodAll_cons hr0
  obtain ⟨v2, vs2, dd2, ds2, p2, q2, rfl, rfl, rfl, h2, hr2⟩ := trodAll_cons hr1
  obtain ⟨rfl, rfl, rfl⟩ := trodAll_nil hr2
  obtain rfl : args = #[v0, v1, v2] := by cases args; simp_all
  obtain ⟨a0, rfl, rfl, rfl, w0⟩ := open_int Try.underlying3 (hval 0 3 v0 rfl rfl) h0
  obtain ⟨a1, b1, rfl, X1, Y1⟩ := open_slot (hval 1 52 v1 rfl rfl) h1
  obtain ⟨a2, rfl, rfl, rfl, w2⟩ := open_int Try.underlying3 (hval 2 3 v2 rfl rfl) h2
  refine (walk a0 a1 b1 a2 W (by simpa [Lit.wf, IntKind.min, IntKind.max, IntKind.signed, IntKind.bits] using w0) X1 Y1 (by simpa [Lit.wf, IntKind.min, IntKind.max, IntKind.signed, IntKind.bits] using w2)).mono fun e W' ⟨he, hg⟩ => ?_
  subst he
  exact ⟨_, rfl, hpost W' hg⟩

theorem closed : joinedFacts Try.prog 19 Try.f19 Rows.spaceWindowsSpec Rows.spaceWindowsRow = true := by
  unfold joinedFacts
  rw [enters, finals, made]
  kernel_rfl

theorem over : Rows.spaceWindowsRow.holds Try.pinned (OpenSpec.ofChange Rows.spaceWindowsSpec) :=
  OpenClaim.holds_of_wide 19 Try.f19 rfl rfl rfl rfl rfl rfl rfl ⟨rfl, rfl, rfl, rfl, rfl⟩ rfl rfl rfl rfl rfl (by kernel_rfl) Try.func19 closed
    (of_decide_eq_true (by kernel_rfl)) (by unfold Func.isWrapper; rw [if_neg (by decide +kernel)]; exact ⟨rfl, rfl⟩)
    (fun os started H enc _ => lifted os started H enc)

theorem proved : Rows.SpaceWindowsSaid := over
end Go.Proofs.Ytndohmimcbmhdaa.lawSpaceWindows
