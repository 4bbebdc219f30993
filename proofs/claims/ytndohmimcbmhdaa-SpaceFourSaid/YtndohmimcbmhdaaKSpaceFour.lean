/-
  SpaceFour: called with any values of its parameters, the law answers true, and of what lay in memory nothing has turned. No condition.
-/
import Derived.Test.YtndohmimcbmhdaaRows
import Derived.Test.YtndohmimcbmhdaaMz0
import Derived.Test.YtndohmimcbmhdaaMz2
import Derived.Test.YtndohmimcbmhdaaMv0
set_option linter.unusedVariables false
set_option linter.unusedSimpArgs false
namespace Go.Proofs.Ytndohmimcbmhdaa.lawSpaceFour
open Go.ChangeShapes Go.WideShapes Go.ChangeAt Go.RowKit Go.Sort

theorem own : ownKnob Try.prog.godebug = none := by kernel_rfl
theorem laidOut : laidOutB Try.prog = true := by kernel_rfl


set_option maxHeartbeats 16000000 in
set_option maxRecDepth 100000 in
theorem walk (q0 : Th) (a1 : Int) (b1 : Int) (c1 : Int) (d1 : Int) (a2 : Int) (w : World) (r0 : ThR q0) (b2 : -9223372036854775808 ≤ a2 ∧ a2 ≤ 9223372036854775807) :
    Calls Try.prog 20 #[.agg (fourL q0).toArray, .agg #[.int .i64 a1, .int .i64 b1, .int .i64 c1, .int .i64 d1], .int .i64 a2] w fun e w' => e = .returned (.bool true) ∧ Below w.heap.size w w' := by
  have mixed : Try.prog.follows .mixedOrders = true := by kernel_rfl
  obtain ⟨p0, p1, p2⟩ := two_blk w (fourL q0).toArray #[.int .i64 a1, .int .i64 b1, .int .i64 c1, .int .i64 d1] 59 75
  have HB0 := hid p0
  have HS0 := hid p1
  have HI0 := hid p2
  have HR0 := hid r0
  clear p0 p1 p2 r0
  go_enter Try.func20, Try.ntmps20
  go_wp2_with (first
    | (go_at_call 70
       refine (alive70 _).mono ?_
       rintro e w1 ⟨rfl, hb1⟩
       have HB1 := hid (HB0.out.trans (hb1.mono HB0.out.size))
       have HS1 := hid (HS0.out.below hb1 HS0.out.lt)
       have HI1 := hid (HI0.out.below hb1 HI0.out.lt)
       clear hb1)
    | (go_at_call 69
       refine (empty69_e _).mono ?_
       rintro e w2 ⟨rfl, hb2⟩
       have HB2 := hid (HB1.out.trans (hb2.mono HB1.out.size))
       have HS2 := hid (HS1.out.below hb2 HS1.out.lt)
       have HI2 := hid (HI1.out.below hb2 HI1.out.lt)
       clear hb2)
    | (with_reducible refine wpList_new61 emptyT ?_ ?_ ?_
       · exact rfl
       · exact rfl
       have HB3 := hid (HB2.out.alloc HB2.out.size (.cells (thC emptyT) 61))
       have HS3 := hid (HS2.out.alloc (.cells (thC emptyT) 61))
       have HI3 := hid (HI2.out.alloc (.cells (thC emptyT) 61))
       have HG3 : Hid (Blk (w2.alloc (.cells (thC emptyT) 61)) w2.heap.size 61 (thC emptyT)) := Blk.new w2 61 _
       have HL3 : Hid ((w2.alloc (.cells (thC emptyT) 61)).heap.size = w2.heap.size + 1) := by show _ = _; simp
       have HL2 : Hid (w.heap.size + 1 < w2.heap.size) := HI2.out.lt
       generalize w2.alloc (.cells (thC emptyT) 61) = w3 at *
       generalize w2.heap.size = g7 at *)
    | (with_reducible refine wpList_new59 ?_ ?_ ?_
       · exact rfl
       · exact rfl
       have HB4 := hid (HB3.out.alloc HB3.out.size (.cells (fourL zeroTh).toArray 59))
       have HS4 := hid (HS3.out.alloc (.cells (fourL zeroTh).toArray 59))
       have HI4 := hid (HI3.out.alloc (.cells (fourL zeroTh).toArray 59))
       have HG4 := hid (HG3.out.alloc (.cells (fourL zeroTh).toArray 59))
       have HW4 : Hid (Blk (w3.alloc (.cells (fourL zeroTh).toArray 59)) w3.heap.size 59 (fourL zeroTh).toArray) := Blk.new w3 59 _
       generalize w3.alloc (.cells (fourL zeroTh).toArray 59) = w4 at *
       obtain ⟨f1, f2, f3, f4⟩ := Blk.quad HI4.out
       generalize w3.heap.size = g8 at *))
  go_loopw [22] (fun vi wr => ∃ (k : Nat) (v u : Th), k ≤ 4 ∧ vi = .int .i64 k ∧ Hid (Below w.heap.size w wr) ∧ Hid (Blk wr w.heap.size 59 (fourL q0).toArray) ∧ Hid (Blk wr g7 61 (thC u)) ∧ Hid (Blk wr g8 59 (fourL v).toArray) ∧ Hid (LikeP (spaceT v) u) ∧ Hid (goodSlots v = true) ∧ Hid (ThR v)) (fun vi _ => 4 - (intOf vi).toNat)
  case atStart => exact ⟨0, zeroTh, emptyT, by omega, rfl, HB4, HS4, HG4, HW4, likeP_empty, good_zero, zeroTh_R⟩
  case round =>
    clear f1 f2 f3 f4
    obtain ⟨k, v, u, hk, rfl, BW, BS, BG, BV, LU, GV, RV⟩ := hrel
    by_cases hlt : k < 4
    · have hltz : (k : Int) < 4 := by omega
      obtain ⟨z, hz⟩ := pick4 a1 b1 c1 d1 hlt
      have HZ := hid hz
      clear hz
      by_cases hz0 : z < 0
      · go_wp2_with ((with_reducible refine wpList_at75 k a1 b1 c1 d1 z HZ.out ?_ ?_ ?_); exact rfl; exact rfl)
        go_roundw
        case measure => simp [intOf] <;> omega
        case rel => exact ⟨k + 1, v, u, by omega, by go_num, BW, BS, BG, BV, LU, GV, RV⟩
      · by_cases hz3 : 3 < z
        · go_wp2_with ((with_reducible refine wpList_at75 k a1 b1 c1 d1 z HZ.out ?_ ?_ ?_); exact rfl; exact rfl)
          go_roundw
          case measure => simp [intOf] <;> omega
          case rel => exact ⟨k + 1, v, u, by omega, by go_num, BW, BS, BG, BV, LU, GV, RV⟩
        · have hz4 : z < 4 := by omega
          have hz0' : 0 ≤ z := by omega
          have hz4' : ¬ 4 ≤ z := by omega
          have HIN := hid (fourL_at q0 hz0' hz4)
          have HXR : Hid (u64R (slotAt q0 z).1 ∧ u64R (slotAt q0 z).2) := slotAt_R HR0.out z
          have HMAP0 := hid (fun W => map_space LU.out GV.out RV.out W hz0' hz4 (slotAt q0 z).1 (slotAt q0 z).2 HXR.out.1 HXR.out.2)
          obtain ⟨f1, f2⟩ := Blk.four BS.out hz0' hz4
          clear f1 f2
          have HCELL : Hid (∀ W, Blk W w.heap.size 59 (fourL q0).toArray → W.cell? ⟨w.heap.size, z.toNat * 2, none⟩ = some (.int .u64 (slotAt q0 z).1) ∧ W.cell? ⟨w.heap.size, z.toNat * 2 + 1, none⟩ = some (.int .u64 (slotAt q0 z).2)) := fun W hB => Blk.four hB hz0' hz4
          generalize slotAt q0 z = s at *
          obtain ⟨x, y⟩ := s
          dsimp only at HIN HXR HMAP0 HCELL
          by_cases hs : slotOk x y = true
          · rw [show (if slotOk x y = true then (0 : Int) else 171) = 0 from if_pos hs, show (if slotOk x y = true then setSlot v z (x, y) else v) = setSlot v z (x, y) from if_pos hs] at HMAP0
            have HMAP := HMAP0
            clear HMAP0
            go_wp2_with ((with_reducible refine wpList_at75 k a1 b1 c1 d1 z HZ.out ?_ ?_ ?_); exact rfl; exact rfl)
            refine wp_region_toldz 11 mixed (by kernel_rfl) ?_
            simp only [List.take_succ_cons, List.take_zero, List.drop_succ_cons, List.drop_zero]
            refine z_val (v := .agg (thC u)) (fun _ => rfl) (fun vs W hW => loose_load61 rfl rfl (hW.blk BG.out (fun h => h))) ?_
            simp only [Act.put, List.setIfInBounds_toArray, List.set_cons_zero, List.set_cons_succ, List.nil_append, List.cons_append, Nat.reduceAdd]
            refine z_val (v := ?_) (fun _ => rfl) (fun vs W hW => ?_) ?_
            rotate_left
            · clear hW
              go_simp
              exact loose_val
            simp only [Act.put, List.setIfInBounds_toArray, List.set_cons_zero, List.set_cons_succ, List.nil_append, List.cons_append, Nat.reduceAdd]
            refine z_val (v := ?_) (fun _ => rfl) (fun vs W hW => ?_) ?_
            rotate_left
            · clear hW
              go_simp
              exact loose_val
            simp only [Act.put, List.setIfInBounds_toArray, List.set_cons_zero, List.set_cons_succ, List.nil_append, List.cons_append, Nat.reduceAdd]
            refine z_val (v := ?_) (fun _ => rfl) (fun vs W hW => ?_) ?_
            rotate_left
            · clear hW
              go_simp
              exact loose_val
            simp only [Act.put, List.setIfInBounds_toArray, List.set_cons_zero, List.set_cons_succ, List.nil_append, List.cons_append, Nat.reduceAdd]
            refine z_val (v := .agg #[.int .u64 x, .int .u64 y]) (fun _ => rfl) (fun vs W hW => loose_load (cur := fourL q0) (vs := [.int .u64 x, .int .u64 y]) rfl rfl (hW.blk BS.out (fun h => h)) (agg_of_struct Try.underlying52) size52 HIN.out) ?_
            simp only [Act.put, List.setIfInBounds_toArray, List.set_cons_zero, List.set_cons_succ, List.nil_append, List.cons_append, Nat.reduceAdd]
            refine z_part (RetT (spaceT (setSlot v z (x, y))) 0) RetT.steady (fun _ => rfl) (fun vs W Good hW hd => ?_) ?_
            · clear hd
              go_simp
              exact z_callT (HMAP.out W)
            simp only [Act.put, List.setIfInBounds_toArray, List.set_cons_zero, List.set_cons_succ, List.nil_append, List.cons_append, Nat.reduceAdd]
            refine z_part (RetT (spaceT (setSlot v z (x, y))) 0) RetT.steady (fun _ => rfl) (fun vs W Good hW hd => z_movT (hd ⟨5, .data⟩ (by simp) rfl _ rfl)) ?_
            simp only [Act.put, List.setIfInBounds_toArray, List.set_cons_zero, List.set_cons_succ, List.nil_append, List.cons_append, Nat.reduceAdd]
            refine z_part (GotT (spaceT (setSlot v z (x, y)))) GotT.steady (fun _ => rfl) (fun vs W Good hW hd => z_thT rfl rfl (hd ⟨6, .data⟩ (by simp) rfl _ rfl)) ?_
            simp only [Act.put, List.setIfInBounds_toArray, List.set_cons_zero, List.set_cons_succ, List.nil_append, List.cons_append, Nat.reduceAdd]
            refine z_val' (v := .int .i64 0) (fun _ => rfl) (fun vs W Good hW hd => z_numT rfl rfl (hd ⟨6, .data⟩ (by simp) rfl _ rfl)) ?_
            simp only [Act.put, List.setIfInBounds_toArray, List.set_cons_zero, List.set_cons_succ, List.nil_append, List.cons_append, Nat.reduceAdd]
            refine z_box 61 (thC zeroTh) (fun _ => rfl) (fun vs W hW => alloc_run61 rfl) ?_
            simp only [Act.put, List.setIfInBounds_toArray, List.set_cons_zero, List.set_cons_succ, List.nil_append, List.cons_append, Nat.reduceAdd]
            refine z_fill 9 7 61 (thC zeroTh) (PutT (spaceT (setSlot v z (x, y)))) rfl PutT.steady (by kernel_rfl) (fun _ => rfl) (fun vs W Good hW hd g hg hk => z_putT rfl rfl hg rfl hk (hd ⟨7, .data⟩ (by simp) rfl _ rfl)) ?_
            simp only [Act.put, List.setIfInBounds_toArray, List.set_cons_zero, List.set_cons_succ, List.nil_append, List.cons_append, Nat.reduceAdd]
            refine z_nil ?_
            intro vs W hW hv hp hb hf
            obtain ⟨u', g, e7, e5, hu, hk⟩ := hf 10 9 7 _ rfl
            dsimp only
            rw [e7, e5]
            have HB5 := hid (BW.out.trans (since_below hW BW.out.size))
            have HS5 := hid (hW.blk BS.out (fun h => h))
            have HG5 := hid (hW.blk BG.out (fun h => h))
            have HV5 := hid (hW.blk BV.out (fun h => h))
            have HN5 := hid hk
            have HU := hid hu
            have HL5 := hid (show g < W.heap.size from hk.lt)
            clear hv hp hb hf hk hu hW e7 e5
            generalize vs 5 = v3
            generalize vs 6 = v4
            unfold ptr
            obtain ⟨f1, f2⟩ := HCELL.out W HS5.out
            have HNE := hid (Blk.type_ne HN5.out HV5.out (by decide))
            go_wp2_with (first
              | (refine wpList_part (ty := 52) (g := g8) (off := z.toNat * 2) (t := 59) (cur := fourL v) [.int .u64 x, .int .u64 y] rfl rfl HV5.out rfl size52 (by show z.toNat * 2 + 2 ≤ 8; omega) (one_of rfl) ?_
                 intro w6 hb6 hk6
                 rw [fourL_set v hz0' hz4 (x, y)] at hk6
                 have HV6 := hid hk6
                 have HB6 := hid (hb6.done HB5.out (fun k e => by have := HL2.out; have := HL3.out; omega) (by have := HB5.out.size; omega))
                 have HS6 := hid (hb6.blk HS5.out (fun e => by have := HL2.out; have := HL3.out; omega))
                 have HG6 := hid (hb6.blk HG5.out (fun e => by have := HL3.out; omega))
                 have HN6 := hid (hb6.blk HN5.out (fun e => HNE.out e))
                 clear hb6 hk6)
              | ((with_reducible refine wpList_load61 u' g ?_ HN6.out ?_)
                 exact rfl
                 refine wpList_store61 u' u g7 rfl rfl HG6.out ?_
                 intro w8 hb8 hk8
                 have HG8 := hid hk8
                 have HB8 := hid (hb8.done HB6.out (fun k e => by have := HL2.out; omega) (by have := HB6.out.size; omega))
                 have HS8 := hid (hb8.blk HS6.out (fun e => by have := HL2.out; omega))
                 have HV8 := hid (hb8.blk HV6.out (fun e => by have := HL3.out; omega))
                 clear hb8 hk8))
            go_roundw
            case measure => simp [intOf] <;> omega
            case rel => exact ⟨k + 1, setSlot v z (x, y), u', by omega, by go_num, HB8, HS8, HG8, HV8, HU, (good_set GV.out hz0' hz4 (x, y)).trans hs, setSlot_R RV.out z HXR.out.1 HXR.out.2⟩
          · rw [show (if slotOk x y = true then (0 : Int) else 171) = 171 from if_neg hs, show (if slotOk x y = true then setSlot v z (x, y) else v) = v from if_neg hs] at HMAP0
            have HMAP := HMAP0
            clear HMAP0
            go_wp2_with ((with_reducible refine wpList_at75 k a1 b1 c1 d1 z HZ.out ?_ ?_ ?_); exact rfl; exact rfl)
            refine wp_region_toldz 11 mixed (by kernel_rfl) ?_
            simp only [List.take_succ_cons, List.take_zero, List.drop_succ_cons, List.drop_zero]
            refine z_val (v := .agg (thC u)) (fun _ => rfl) (fun vs W hW => loose_load61 rfl rfl (hW.blk BG.out (fun h => h))) ?_
            simp only [Act.put, List.setIfInBounds_toArray, List.set_cons_zero, List.set_cons_succ, List.nil_append, List.cons_append, Nat.reduceAdd]
            refine z_val (v := ?_) (fun _ => rfl) (fun vs W hW => ?_) ?_
            rotate_left
            · clear hW
              go_simp
              exact loose_val
            simp only [Act.put, List.setIfInBounds_toArray, List.set_cons_zero, List.set_cons_succ, List.nil_append, List.cons_append, Nat.reduceAdd]
            refine z_val (v := ?_) (fun _ => rfl) (fun vs W hW => ?_) ?_
            rotate_left
            · clear hW
              go_simp
              exact loose_val
            simp only [Act.put, List.setIfInBounds_toArray, List.set_cons_zero, List.set_cons_succ, List.nil_append, List.cons_append, Nat.reduceAdd]
            refine z_val (v := ?_) (fun _ => rfl) (fun vs W hW => ?_) ?_
            rotate_left
            · clear hW
              go_simp
              exact loose_val
            simp only [Act.put, List.setIfInBounds_toArray, List.set_cons_zero, List.set_cons_succ, List.nil_append, List.cons_append, Nat.reduceAdd]
            refine z_val (v := .agg #[.int .u64 x, .int .u64 y]) (fun _ => rfl) (fun vs W hW => loose_load (cur := fourL q0) (vs := [.int .u64 x, .int .u64 y]) rfl rfl (hW.blk BS.out (fun h => h)) (agg_of_struct Try.underlying52) size52 HIN.out) ?_
            simp only [Act.put, List.setIfInBounds_toArray, List.set_cons_zero, List.set_cons_succ, List.nil_append, List.cons_append, Nat.reduceAdd]
            refine z_part (RetT (spaceT v) 171) RetT.steady (fun _ => rfl) (fun vs W Good hW hd => ?_) ?_
            · clear hd
              go_simp
              exact z_callT (HMAP.out W)
            simp only [Act.put, List.setIfInBounds_toArray, List.set_cons_zero, List.set_cons_succ, List.nil_append, List.cons_append, Nat.reduceAdd]
            refine z_part (RetT (spaceT v) 171) RetT.steady (fun _ => rfl) (fun vs W Good hW hd => z_movT (hd ⟨5, .data⟩ (by simp) rfl _ rfl)) ?_
            simp only [Act.put, List.setIfInBounds_toArray, List.set_cons_zero, List.set_cons_succ, List.nil_append, List.cons_append, Nat.reduceAdd]
            refine z_part (GotT (spaceT v)) GotT.steady (fun _ => rfl) (fun vs W Good hW hd => z_thT rfl rfl (hd ⟨6, .data⟩ (by simp) rfl _ rfl)) ?_
            simp only [Act.put, List.setIfInBounds_toArray, List.set_cons_zero, List.set_cons_succ, List.nil_append, List.cons_append, Nat.reduceAdd]
            refine z_val' (v := .int .i64 171) (fun _ => rfl) (fun vs W Good hW hd => z_numT rfl rfl (hd ⟨6, .data⟩ (by simp) rfl _ rfl)) ?_
            simp only [Act.put, List.setIfInBounds_toArray, List.set_cons_zero, List.set_cons_succ, List.nil_append, List.cons_append, Nat.reduceAdd]
            refine z_box 61 (thC zeroTh) (fun _ => rfl) (fun vs W hW => alloc_run61 rfl) ?_
            simp only [Act.put, List.setIfInBounds_toArray, List.set_cons_zero, List.set_cons_succ, List.nil_append, List.cons_append, Nat.reduceAdd]
            refine z_fill 9 7 61 (thC zeroTh) (PutT (spaceT v)) rfl PutT.steady (by kernel_rfl) (fun _ => rfl) (fun vs W Good hW hd g hg hk => z_putT rfl rfl hg rfl hk (hd ⟨7, .data⟩ (by simp) rfl _ rfl)) ?_
            simp only [Act.put, List.setIfInBounds_toArray, List.set_cons_zero, List.set_cons_succ, List.nil_append, List.cons_append, Nat.reduceAdd]
            refine z_nil ?_
            intro vs W hW hv hp hb hf
            obtain ⟨u', g, e7, e5, hu, hk⟩ := hf 10 9 7 _ rfl
            dsimp only
            rw [e7, e5]
            have HB5 := hid (BW.out.trans (since_below hW BW.out.size))
            have HS5 := hid (hW.blk BS.out (fun h => h))
            have HG5 := hid (hW.blk BG.out (fun h => h))
            have HV5 := hid (hW.blk BV.out (fun h => h))
            have HN5 := hid hk
            have HU := hid hu
            have HL5 := hid (show g < W.heap.size from hk.lt)
            clear hv hp hb hf hk hu hW e7 e5
            generalize vs 5 = v3
            generalize vs 6 = v4
            unfold ptr
            go_wp2_with (first
              | ((with_reducible refine wpList_load61 u' g ?_ HN5.out ?_)
                 exact rfl
                 refine wpList_store61 u' u g7 rfl rfl HG5.out ?_
                 intro w8 hb8 hk8
                 have HG8 := hid hk8
                 have HB8 := hid (hb8.done HB5.out (fun k e => by have := HL2.out; omega) (by have := HB5.out.size; omega))
                 have HS8 := hid (hb8.blk HS5.out (fun e => by have := HL2.out; omega))
                 have HV8 := hid (hb8.blk HV5.out (fun e => by have := HL3.out; omega))
                 clear hb8 hk8))
            go_roundw
            case measure => simp [intOf] <;> omega
            case rel => exact ⟨k + 1, v, u', by omega, by go_num, HB8, HS8, HG8, HV8, HU, GV, RV⟩
    · have hltz : ¬ (k : Int) < 4 := by omega
      by_cases hA : a2 < 0
      · have HWV := hid (whereV_far (t := spaceT v) (x := a2) (by omega))
        go_wp2_with (first
          | ((with_reducible refine wpList_load61 u g7 ?_ BG.out ?_)
             exact rfl)
          | ((with_reducible refine wpList_new52 (0) (0) ?_ ?_ ?_)
             exact rfl
             exact rfl
             have HB10 := hid (HB9.out.alloc HB9.out.size (.cells #[.int .u64 (0), .int .u64 (0)] 52))
             have HV10 := hid (HV9.out.alloc (.cells #[.int .u64 (0), .int .u64 (0)] 52))
             have HX10 : Hid (Blk (w9.alloc (.cells #[.int .u64 (0), .int .u64 (0)] 52)) w9.heap.size 52 #[.int .u64 (0), .int .u64 (0)]) := Blk.new w9 52 _
             generalize w9.alloc (.cells #[.int .u64 (0), .int .u64 (0)] 52) = w10 at *
             obtain ⟨f1, f2⟩ := Blk.cells2 HX10.out
             skip)
          | (go_at_call 68
             refine (where_likeP LU.out wr a2).mono ?_
             rw [HWV.out]
             rintro e w9 ⟨rfl, hb9⟩
             have HB9 := hid (BW.out.trans (hb9.mono BW.out.size))
             have HV9 := hid (BV.out.below hb9 BV.out.lt)
             clear hb9))
        go_ret
        exact ⟨rfl, HB10.out⟩
      · by_cases hB : 511 < a2
        · have hA' : ¬ a2 < 0 := hA
          have HWV := hid (whereV_far (t := spaceT v) (x := a2) (by omega))
          go_wp2_with (first
            | ((with_reducible refine wpList_load61 u g7 ?_ BG.out ?_)
               exact rfl)
            | ((with_reducible refine wpList_new52 (0) (0) ?_ ?_ ?_)
               exact rfl
               exact rfl
               have HB10 := hid (HB9.out.alloc HB9.out.size (.cells #[.int .u64 (0), .int .u64 (0)] 52))
               have HV10 := hid (HV9.out.alloc (.cells #[.int .u64 (0), .int .u64 (0)] 52))
               have HX10 : Hid (Blk (w9.alloc (.cells #[.int .u64 (0), .int .u64 (0)] 52)) w9.heap.size 52 #[.int .u64 (0), .int .u64 (0)]) := Blk.new w9 52 _
               generalize w9.alloc (.cells #[.int .u64 (0), .int .u64 (0)] 52) = w10 at *
               obtain ⟨f1, f2⟩ := Blk.cells2 HX10.out
               skip)
            | (go_at_call 68
               refine (where_likeP LU.out wr a2).mono ?_
               rw [HWV.out]
               rintro e w9 ⟨rfl, hb9⟩
               have HB9 := hid (BW.out.trans (hb9.mono BW.out.size))
               have HV9 := hid (BV.out.below hb9 BV.out.lt)
               clear hb9))
          go_ret
          exact ⟨rfl, HB10.out⟩
        · have ha0 : 0 ≤ a2 := by omega
          have ha1 : a2 < 512 := by omega
          have hq0 : 0 ≤ a2 / 128 := by omega
          have hq1 : a2 / 128 < 4 := by omega
          have hq2 : ¬ 4 ≤ a2 / 128 := by omega
          have hq3 : ¬ a2 / 128 < 0 := by omega
          have hE : a2 - a2 / 128 * 128 = a2 % 128 := by omega
          have HWV0 := hid (whereV_space v ha0 ha1)
          have HC : Hid (∀ W, Blk W g8 59 (fourL v).toArray → W.cell? ⟨g8, (a2 / 128).toNat * 2, none⟩ = some (.int .u64 (slotAt v (a2 / 128)).1) ∧ W.cell? ⟨g8, (a2 / 128).toNat * 2 + 1, none⟩ = some (.int .u64 (slotAt v (a2 / 128)).2)) := fun W hB => Blk.four hB hq0 hq1
          generalize slotAt v (a2 / 128) = s at *
          obtain ⟨x, y⟩ := s
          dsimp only at HWV0 HC
          by_cases h1 : x = 0
          · subst h1
            by_cases h2 : y = 0
            · subst h2
              have HWV : Hid (whereV (spaceT v) a2 = .tuple #[.agg #[.int .u64 0, .int .u64 0], .int .i64 0, .int .i64 172]) := HWV0.out
              go_wp2_with (first
                | ((with_reducible refine wpList_load61 u g7 ?_ BG.out ?_)
                   exact rfl)
                | ((with_reducible refine wpList_new52 (0) (0) ?_ ?_ ?_)
                   exact rfl
                   exact rfl
                   have HB11 := hid (HB10.out.alloc HB10.out.size (.cells #[.int .u64 (0), .int .u64 (0)] 52))
                   have HX11 := hid (HX10.out.alloc (.cells #[.int .u64 (0), .int .u64 (0)] 52))
                   have HY11 : Hid (Blk (w10.alloc (.cells #[.int .u64 (0), .int .u64 (0)] 52)) w10.heap.size 52 #[.int .u64 (0), .int .u64 (0)]) := Blk.new w10 52 _
                   generalize w10.alloc (.cells #[.int .u64 (0), .int .u64 (0)] 52) = w11 at *
                   obtain ⟨f5, f6⟩ := Blk.cells2 HX11.out
                   obtain ⟨f7, f8⟩ := Blk.cells2 HY11.out)
                | ((with_reducible refine wpList_new52 (0) (0) ?_ ?_ ?_)
                   exact rfl
                   exact rfl
                   have HB10 := hid (HB9.out.alloc HB9.out.size (.cells #[.int .u64 (0), .int .u64 (0)] 52))
                   have HV10 := hid (HV9.out.alloc (.cells #[.int .u64 (0), .int .u64 (0)] 52))
                   have HX10 : Hid (Blk (w9.alloc (.cells #[.int .u64 (0), .int .u64 (0)] 52)) w9.heap.size 52 #[.int .u64 (0), .int .u64 (0)]) := Blk.new w9 52 _
                   generalize w9.alloc (.cells #[.int .u64 (0), .int .u64 (0)] 52) = w10 at *
                   obtain ⟨f1, f2⟩ := Blk.cells2 HX10.out
                   obtain ⟨f3, f4⟩ := HC.out _ HV10.out)
                | (go_at_call 68
                   refine (where_likeP LU.out wr a2).mono ?_
                   rw [HWV.out]
                   rintro e w9 ⟨rfl, hb9⟩
                   have HB9 := hid (BW.out.trans (hb9.mono BW.out.size))
                   have HV9 := hid (BV.out.below hb9 BV.out.lt)
                   clear hb9))
              go_ret
              exact ⟨rfl, HB11.out⟩
            · have h2' : (y == 0) = false := by simpa using h2
              have HWV : Hid (whereV (spaceT v) a2 = .tuple #[.agg #[.int .u64 0, .int .u64 y], .int .i64 (a2 % 128), .int .i64 0]) := HWV0.out.trans (if_neg (by show ¬ (_ && _) = true; simp [h2]))
              go_wp2_with (first
                | ((with_reducible refine wpList_load61 u g7 ?_ BG.out ?_)
                   exact rfl)
                | ((with_reducible refine wpList_new52 (0) (y) ?_ ?_ ?_)
                   exact rfl
                   exact rfl
                   have HB11 := hid (HB10.out.alloc HB10.out.size (.cells #[.int .u64 (0), .int .u64 (y)] 52))
                   have HX11 := hid (HX10.out.alloc (.cells #[.int .u64 (0), .int .u64 (y)] 52))
                   have HY11 : Hid (Blk (w10.alloc (.cells #[.int .u64 (0), .int .u64 (y)] 52)) w10.heap.size 52 #[.int .u64 (0), .int .u64 (y)]) := Blk.new w10 52 _
                   generalize w10.alloc (.cells #[.int .u64 (0), .int .u64 (y)] 52) = w11 at *
                   obtain ⟨f5, f6⟩ := Blk.cells2 HX11.out
                   obtain ⟨f7, f8⟩ := Blk.cells2 HY11.out)
                | ((with_reducible refine wpList_new52 (0) (y) ?_ ?_ ?_)
                   exact rfl
                   exact rfl
                   have HB10 := hid (HB9.out.alloc HB9.out.size (.cells #[.int .u64 (0), .int .u64 (y)] 52))
                   have HV10 := hid (HV9.out.alloc (.cells #[.int .u64 (0), .int .u64 (y)] 52))
                   have HX10 : Hid (Blk (w9.alloc (.cells #[.int .u64 (0), .int .u64 (y)] 52)) w9.heap.size 52 #[.int .u64 (0), .int .u64 (y)]) := Blk.new w9 52 _
                   generalize w9.alloc (.cells #[.int .u64 (0), .int .u64 (y)] 52) = w10 at *
                   obtain ⟨f1, f2⟩ := Blk.cells2 HX10.out
                   obtain ⟨f3, f4⟩ := HC.out _ HV10.out)
                | (go_at_call 68
                   refine (where_likeP LU.out wr a2).mono ?_
                   rw [HWV.out]
                   rintro e w9 ⟨rfl, hb9⟩
                   have HB9 := hid (BW.out.trans (hb9.mono BW.out.size))
                   have HV9 := hid (BV.out.below hb9 BV.out.lt)
                   clear hb9))
              go_ret
              exact ⟨rfl, HB11.out⟩
          · have h1' : (x == 0) = false := by simpa using h1
            have HWV : Hid (whereV (spaceT v) a2 = .tuple #[.agg #[.int .u64 x, .int .u64 y], .int .i64 (a2 % 128), .int .i64 0]) := HWV0.out.trans (if_neg (by show ¬ (_ && _) = true; simp [h1]))
            go_wp2_with (first
              | ((with_reducible refine wpList_load61 u g7 ?_ BG.out ?_)
                 exact rfl)
              | ((with_reducible refine wpList_new52 (x) (y) ?_ ?_ ?_)
                 exact rfl
                 exact rfl
                 have HB11 := hid (HB10.out.alloc HB10.out.size (.cells #[.int .u64 (x), .int .u64 (y)] 52))
                 have HX11 := hid (HX10.out.alloc (.cells #[.int .u64 (x), .int .u64 (y)] 52))
                 have HY11 : Hid (Blk (w10.alloc (.cells #[.int .u64 (x), .int .u64 (y)] 52)) w10.heap.size 52 #[.int .u64 (x), .int .u64 (y)]) := Blk.new w10 52 _
                 generalize w10.alloc (.cells #[.int .u64 (x), .int .u64 (y)] 52) = w11 at *
                 obtain ⟨f5, f6⟩ := Blk.cells2 HX11.out
                 obtain ⟨f7, f8⟩ := Blk.cells2 HY11.out)
              | ((with_reducible refine wpList_new52 (x) (y) ?_ ?_ ?_)
                 exact rfl
                 exact rfl
                 have HB10 := hid (HB9.out.alloc HB9.out.size (.cells #[.int .u64 (x), .int .u64 (y)] 52))
                 have HV10 := hid (HV9.out.alloc (.cells #[.int .u64 (x), .int .u64 (y)] 52))
                 have HX10 : Hid (Blk (w9.alloc (.cells #[.int .u64 (x), .int .u64 (y)] 52)) w9.heap.size 52 #[.int .u64 (x), .int .u64 (y)]) := Blk.new w9 52 _
                 generalize w9.alloc (.cells #[.int .u64 (x), .int .u64 (y)] 52) = w10 at *
                 obtain ⟨f1, f2⟩ := Blk.cells2 HX10.out
                 obtain ⟨f3, f4⟩ := HC.out _ HV10.out)
              | (go_at_call 68
                 refine (where_likeP LU.out wr a2).mono ?_
                 rw [HWV.out]
                 rintro e w9 ⟨rfl, hb9⟩
                 have HB9 := hid (BW.out.trans (hb9.mono BW.out.size))
                 have HV9 := hid (BV.out.below hb9 BV.out.lt)
                 clear hb9))
            go_ret
            exact ⟨rfl, HB11.out⟩

theorem fits {H : Type} : ∀ ds : List (DataW H), ds.length = Try.f20.params.toList.length → Rows.spaceFourSpec.fn H ds = { results := [.lit (.bool true)], args := ds } := by
  intro ds h
  rw [Try.params20] at h
  match ds, h with
  | [e0, e1, e2], _ => rfl

set_option maxRecDepth 100000 in
theorem lifted (os : Os) (started : os.Started) (H : Type) (enc : TypeId × Value → H) :
    ReturnsInHanded {} Try.checked os 20 .any (Rows.spaceFourSpec.pre6 enc Try.prog Try.f20 Rows.spaceFourRow.domain false) (Rows.spaceFourSpec.post enc Try.prog Try.f20 false true false false) := by
  refine returnsInHanded_of_change_sized (C := Try.checked) own started (by kernel_rfl) Try.func20
    (ChangeSpec.witness6 (enc := enc) (C := Try.checked) false ⟨#[], #[.agg #[.int .u64 0, .int .u64 0, .int .u64 0, .int .u64 0, .int .u64 0, .int .u64 0, .int .u64 0, .int .u64 0], .agg #[.int .i64 0, .int .i64 0, .int .i64 0, .int .i64 0], .int .i64 0], []⟩ 8 (by kernel_rfl) (by kernel_rfl) (by kernel_rfl) (by kernel_rfl)) ?_
  intro W base args ds gs before hval0 hW hcnd hsz0 _
  have hval : ∀ (j : Nat) t v, Try.f20.params[j]? = some t → args[j]? = some v → Value.okWide Try.prog W .any base t v := hval0
  have hpost : ∀ W', Below W.heap.size W W' → Rows.spaceFourSpec.post enc Try.prog Try.f20 false true false false W args (.bool true) W' := fun W' hb =>
    law_post rfl rfl Try.underlying4 laidOut (by kernel_rfl) fits hW hb
  obtain ⟨p, q, hA0, hV, rfl, hfz, hnd⟩ := hW
  have hA : DataW.TrodAll enc Try.prog W 0 (fun _ => true) true Try.f20.params.toList args.toList ds p := hA0
  rw [Try.params20] at hA hval
  obtain ⟨rfl, rfl⟩ := trodVars_none hV
  obtain ⟨v0, vs0, dd0, ds0, p0, q0, hargs, rfl, rfl, h0, hr0⟩ := trodAll_cons hA
  obtain ⟨v1, vs1, dd1, ds1, p1, q1, rfl, rfl, rfl, h1, hr1⟩ := trodAll_cons hr0
  obtain ⟨v2, vs2, dd2, ds2, p2, q2, rfl, rfl, rfl, h2, hr2⟩ := trodAll_cons hr1
  obtain ⟨rfl, rfl, rfl⟩ := trodAll_nil hr2
  obtain rfl : args = #[v0, v1, v2] := by cases args; simp_all
  obtain ⟨q0, rfl, R0⟩ := open_slots (hval 0 59 v0 rfl rfl) h0
  obtain ⟨a1, b1, c1, d1, rfl⟩ := open_ints4 (hval 1 75 v1 rfl rfl) h1
  obtain ⟨a2, rfl, rfl, rfl, w2⟩ := open_int Try.underlying3 (hval 2 3 v2 rfl rfl) h2
  refine (walk q0 a1 b1 c1 d1 a2 W R0 (by simpa [Lit.wf, IntKind.min, IntKind.max, IntKind.signed, IntKind.bits] using w2)).mono fun e W' ⟨he, hg⟩ => ?_
  subst he
  exact ⟨_, rfl, hpost W' hg⟩

theorem closed : joinedFacts Try.prog 20 Try.f20 Rows.spaceFourSpec Rows.spaceFourRow = true := by
  unfold joinedFacts
  rw [enters, finals, made]
  kernel_rfl

theorem over : Rows.spaceFourRow.holds Try.pinned (OpenSpec.ofChange Rows.spaceFourSpec) :=
  OpenClaim.holds_of_wide 20 Try.f20 rfl rfl rfl rfl rfl rfl rfl ⟨rfl, rfl, rfl, rfl, rfl⟩ rfl rfl rfl rfl rfl (by kernel_rfl) Try.func20 closed
    (of_decide_eq_true (by kernel_rfl)) (by unfold Func.isWrapper; rw [if_neg (by decide +kernel)]; exact ⟨rfl, rfl⟩)
    (fun os started H enc _ => lifted os started H enc)

theorem proved : Rows.SpaceFourSaid := over
end Go.Proofs.Ytndohmimcbmhdaa.lawSpaceFour
