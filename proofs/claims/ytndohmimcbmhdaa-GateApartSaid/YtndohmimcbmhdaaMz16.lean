/- The document's Turn, Set; its functions hand back what the program's do. -/
import Derived.Test.YtndohmimcbmhdaaMz15
set_option linter.unusedVariables false
set_option linter.unusedSimpArgs false
namespace Go.Proofs.Ytndohmimcbmhdaa
open Go.RowKit Go.Sort

def turnK (was now d : Int) (cs : List (Int × Int)) : List (Int × Int) := mergeK (fun id => (id, turnF was now (levelL d cs id) 0)) (idsL cs)
theorem turnK_level (was now d : Int) (cs : List (Int × Int)) (id : Int) : levelL (turnF was now d d) (turnK was now d cs) id = turnF was now (levelL d cs id) (levelL d cs id) := by
  unfold turnK mergeK
  rw [levelL_map (turnF was now d d) (fun id => turnF was now (levelL d cs id) 0)]
  split
  · rfl
  · rename_i h
    rw [idsL_mem] at h
    rw [levelL_none d cs id fun c hc he => h ⟨c, hc, he⟩]
theorem turnK_form (was now d : Int) (cs : List (Int × Int)) : formL (turnF was now d d) (turnK was now d cs) = formL (turnF was now d d) (mergeL (turnF was now) d cs d cs) :=
  (formL_is _ _).same (formL_is _ _) fun id => by rw [turnK_level, levelL_merge (turnF was now)]
theorem mergeD_form (f : Int → Int → Int) (d : Int) (cs : List (Int × Int)) (d' : Int) (cs' : List (Int × Int)) : formL (f d d') (mergeD f d cs d' cs') = formL (f d d') (mergeL f d cs d' cs') :=
  (formL_is _ _).same (formL_is _ _) fun id => by rw [levelL_mergeD, levelL_merge]

set_option maxHeartbeats 4000000 in
set_option maxRecDepth 100000 in
theorem turn47' (w : World) (d was now : Int) (A : Option Addr) (n c : Nat) (cs : List (Int × Int)) (h : CatsAt w w.heap.size A n c cs) (hn : n ≤ 8796093022208) :
    Calls Try.prog 47 #[.agg #[.int .i64 d, .slice A n c], .int .i64 was, .int .i64 now] w fun e w' => RetOwn (turnF was now d d) (formL (turnF was now d d) (turnK was now d cs)) w e w' := by
  have mixed : Try.prog.follows .mixedOrders = true := by kernel_rfl
  obtain ⟨i0, hi0, hz0, hz1, hz2⟩ := info_parts cat_info
  obtain ⟨dd, hdd⟩ : ∃ dd, turnF was now d d = dd := ⟨_, rfl⟩
  have HPD := hid hdd
  obtain ⟨q1, q2, q3, q4⟩ := three_blk w #[.int .i64 d, .slice A n c] #[.int .i64 0, .slice none 0 0] #[.int .i64 dd, .slice none 0 0] 26 26 26
  have HB := hid q1
  have HP1 := hid q2
  have HP3 := hid q3
  have HP4 := hid q4
  have HC := hid (h.below q1)
  have HMD : Hid (mergeK (fun id => (id, turnF was now (levelL d cs id) 0)) (idsL cs) = turnK was now d cs) := rfl
  have hil := idsL_len cs
  rw [h.len] at hil
  rw [HPD.out]
  clear h q1 q2 q3 q4
  by_cases hd : d = was
  · subst hd
    obtain rfl : now = dd := by rw [← hdd]; unfold turnF; rw [if_pos rfl]
    clear hdd
    go_enter Try.func47, Try.ntmps47
    go_wp2_with fail
    generalize ((w.alloc (.cells #[.int .i64 d, .slice A n c] 26)).alloc (.cells #[.int .i64 0, .slice none 0 0] 26)).alloc (.cells #[.int .i64 now, .slice none 0 0] 26) = wa at *
    refine (ids100 wa d 0 A none n c 0 0 cs [] (HC.out.more HB.out.size) CatsAt.nil_ (by omega)).mono ?_
    rintro e w1 ⟨v0, rfl, ho, hb1⟩
    rw [List.append_nil] at ho
    generalize idsL cs = ids at *
    obtain ⟨Ai, m, ci, rfl, hN⟩ := NumsAt.of_own ho
    have HML := hid hN.len
    have hm : m ≤ 8796093022208 := by have := hN.len; omega
    have HO := hid ho
    have HB1 := hid hb1
    have hs1 := HP4.out.lt
    have hs2 := hb1.size
    have hsa := HB.out.size
    have HS2 := hid (HB.out.trans (hb1.mono hsa))
    clear ho hN hb1 hil
    obtain ⟨ff, hff⟩ : ∃ ff : Int → (Int × Int), ff = (fun id => (id, turnF d now (levelL d cs id) 0)) := ⟨_, rfl⟩
    rw [← hff] at HMD
    have HFF := hid hff
    clear hff
    go_wp2_with fail
    go_loopw [25] (fun vi wr => ∃ (k : Nat) (v : Value), k ≤ m ∧ vi = .int .i64 k ∧ Hid (But (fun i => i = w.heap.size + 1 + 1) w1 wr) ∧ Hid (Blk wr (w.heap.size + 1 + 1) 26 #[.int .i64 now, v]) ∧ Hid (wr.ownsRow w1.heap.size 32 2 v (mergeK ff (ids.take k)).length (flat (mergeK ff (ids.take k))))) (fun vi _ => m - (intOf vi).toNat)
    case atStart => exact ⟨0, .slice none 0 0, Nat.zero_le _, rfl, But.refl _ _, HP4.out.below HB1.out hs1, World.ownsRow_nil _ _ _ _⟩
    case round =>
      obtain ⟨k, v, hk, rfl, BW, XB, OW⟩ := hrel
      have hbr : Below w.heap.size w1 wr := BW.out.done (Below.refl _ _) (fun k hk => by subst hk; omega) (by omega)
      have HCr : Hid (CatsAt wr w.heap.size A n c cs) := (HC.out.below (HB1.out.mono hsa)).below hbr
      have K1 := hid (BW.out.blk (HP1.out.below HB1.out HP1.out.lt) (by omega))
      have K3 := hid (BW.out.blk (HP3.out.below HB1.out HP3.out.lt) (by omega))
      have hwr := BW.out.size
      clear hbr
      by_cases hlt : k < m
      · have hltz : (k : Int) < (m : Int) := by omega
        obtain ⟨ad, x, rfl, had, hx, cx⟩ := (NumsAt.but (v := v) HO.out BW.out (fun k hk => by subst hk; omega) HML.out).at_ hlt
        have HSN := hid (mergeK_snoc ff ids k x hx)
        have hkl : (mergeK ff (ids.take k)).length ≤ k := by unfold mergeK; rw [List.length_map, List.length_take]; omega
        have HFX : Hid (ff x = (x, turnF d now (levelL d cs x) 0)) := by show _ = _; rw [HFF.out]
        generalize mergeK ff (ids.take k) = K at *
        have HLT := hid (World.ownsRow.lt OW.out)
        have HL1 := hid (level38_b wr d A n c cs x (HCr.out.more (by omega)))
        have k10 : wr.cell? ⟨w.heap.size, 0, none⟩ = some (.int .i64 d) := (Blk.cell K1.out 0).trans rfl
        have k11 : wr.cell? ⟨w.heap.size, 1, none⟩ = some (.slice A n c) := (Blk.cell K1.out 1).trans rfl
        generalize levelL d cs x = l1 at *
        clear hx
        go_wp2_with fail
        refine HL1.out.mono ?_
        rintro e w2 ⟨rfl, hb2⟩
        have BW2 : Hid (But (fun i => i = w.heap.size + 1 + 1) w1 w2) := BW.out.below hb2
        have XB2 := hid (XB.out.below hb2 XB.out.lt)
        have OW2 : Hid (World.ownsRow w2 w1.heap.size 32 2 v K.length (flat K)) := World.ownsRow.kept (row := none) OW.out (only_of_below hb2 none) (by cases Value.ownBlock _ <;> simp)
        have HS3 := hid hb2.size
        obtain ⟨⟨z0, z1⟩, z2, z3⟩ := label_zero XB2.out
        clear hb2 k10 k11 HL1
        by_cases hq : l1 = d
        · have hb : (l1 == d) = true := by simpa using hq
          have HFX2 : Hid (ff x = (x, now)) := by show _ = _; rw [HFX.out]; unfold turnF; rw [if_pos hq]
          clear hq
          go_wp2_with (at_builtin; refine wpList_append_any _ rfl (.tmp 37) (.tmp 41) _ rfl w1.heap.size 32 i0 _ 2 16 Try.underlying23 hi0 hz0 hz1 hz2 rfl (by omega) v _ _ rfl (World.ownsRow.alloc OW2.out _) _ _ 1 1 [.int .u64 x, .int .i64 now] rfl (two_new _ _ _) (by simp [Value.oneCell']) (by unfold maxLen; omega) (by omega) (by have := HS3.out; simp; omega) ?_; intro v2 w3 hown3 hg3 hat3; have BW3 : Hid (But (fun i => i = w.heap.size + 1 + 1) w1 w3) := (BW2.out.alloc _).grown hg3 (fun g hg => .inr (HLT.out g hg).1); have XB3 := hid ((XB2.out.alloc _).grown hg3 (fun e => by have := (HLT.out _ e.symm).1; omega)); obtain ⟨⟨x0, x1⟩, x2, x3⟩ := label_zero XB3.out; have HV := hid hown3; obtain ⟨A2, n2, c2, rfl⟩ := own_shape HV.out; clear hown3 hg3 hat3)
          go_roundw
          case measure => simp [intOf] <;> omega
          case rel =>
            refine ⟨k + 1, _, by omega, by go_num, BW3.out.setCell (p := ⟨w.heap.size + 1 + 1, 1, none⟩) (.inl rfl) _, Blk.set_ XB3.out 1 _, ?_⟩
            rw [HSN.out, HFX2.out]
            show Hid (World.ownsRow _ _ _ _ _ (K ++ [(x, now)]).length (flat (K ++ [(x, now)])))
            rw [List.length_append, flat_append]
            exact ownsRow_setCell_below HV.out (by show w.heap.size + 1 + 1 < w1.heap.size; omega) _
        · have hb : (l1 == d) = false := by simpa using hq
          have HFX2 : Hid (ff x = (x, l1)) := by show _ = _; rw [HFX.out]; unfold turnF; rw [if_neg hq]
          clear hq
          go_wp2_with (at_builtin; refine wpList_append_any _ rfl (.tmp 37) (.tmp 41) _ rfl w1.heap.size 32 i0 _ 2 16 Try.underlying23 hi0 hz0 hz1 hz2 rfl (by omega) v _ _ rfl (World.ownsRow.alloc OW2.out _) _ _ 1 1 [.int .u64 x, .int .i64 l1] rfl (two_new _ _ _) (by simp [Value.oneCell']) (by unfold maxLen; omega) (by omega) (by have := HS3.out; simp; omega) ?_; intro v2 w3 hown3 hg3 hat3; have BW3 : Hid (But (fun i => i = w.heap.size + 1 + 1) w1 w3) := (BW2.out.alloc _).grown hg3 (fun g hg => .inr (HLT.out g hg).1); have XB3 := hid ((XB2.out.alloc _).grown hg3 (fun e => by have := (HLT.out _ e.symm).1; omega)); obtain ⟨⟨x0, x1⟩, x2, x3⟩ := label_zero XB3.out; have HV := hid hown3; obtain ⟨A2, n2, c2, rfl⟩ := own_shape HV.out; clear hown3 hg3 hat3)
          go_roundw
          case measure => simp [intOf] <;> omega
          case rel =>
            refine ⟨k + 1, _, by omega, by go_num, BW3.out.setCell (p := ⟨w.heap.size + 1 + 1, 1, none⟩) (.inl rfl) _, Blk.set_ XB3.out 1 _, ?_⟩
            rw [HSN.out, HFX2.out]
            show Hid (World.ownsRow _ _ _ _ _ (K ++ [(x, l1)]).length (flat (K ++ [(x, l1)])))
            rw [List.length_append, flat_append]
            exact ownsRow_setCell_below HV.out (by show w.heap.size + 1 + 1 < w1.heap.size; omega) _
      · have hltz : ¬ (k : Int) < (m : Int) := by omega
        have hv : OwnCats wr w1.heap.size v (turnK d now d cs) := by
          have := OW.out
          rw [List.take_of_length_le (by rw [HML.out]; omega), HMD.out] at this
          exact OwnCats.of_own this
        have hmd : (turnK d now d cs).length ≤ 8796093022208 := by
          rw [← HMD.out]; unfold mergeK; rw [List.length_map, HML.out]; exact hm
        generalize hM : turnK d now d cs = M at *
        have HM := hid hM
        clear hM
        obtain ⟨A2, n2, c2, rfl, hT2⟩ := OwnCats.at_ hv
        obtain ⟨⟨y0, y1⟩, y2, y3⟩ := label_zero XB.out
        have HT2 := hid hT2
        have HB3 : Hid (Below w.heap.size w wr) := BW.out.done HS2.out (fun k hk => by subst hk; omega) (by omega)
        clear hv hT2 OW
        go_wp2_with fail
        refine (form35 wr now A2 n2 c2 M HT2.out (by rw [← HT2.out.len]; exact hmd)).mono ?_
        rintro e w3 ⟨A3, n3, c3, rfl, hv3, hb3⟩
        have hk3 := K3.out.below hb3 K3.out.lt
        obtain ⟨⟨z0, z1⟩, z2, z3⟩ := label_zero hk3
        have HK3 := hid hk3
        have HV3 := hid hv3
        have HB4 := hid (HB3.out.trans (hb3.mono HB3.out.size))
        clear hk3 hv3 hb3
        go_wp2_with fail
        refine bodyPost_ret (label_run (label_put HK3.out _ _) rfl _ rfl) rfl ?_
        have hv4 := HV3.out
        rw [← HM.out] at hv4
        exact lab_own_end hv4 (by omega) K3.out.lt HB4.out
  · have hdb : (d == was) = false := by simpa using hd
    obtain rfl : d = dd := by rw [← hdd]; unfold turnF; rw [if_neg hd]
    clear hdd hd
    go_enter Try.func47, Try.ntmps47
    go_wp2_with fail
    generalize ((w.alloc (.cells #[.int .i64 d, .slice A n c] 26)).alloc (.cells #[.int .i64 0, .slice none 0 0] 26)).alloc (.cells #[.int .i64 d, .slice none 0 0] 26) = wa at *
    refine (ids100 wa d 0 A none n c 0 0 cs [] (HC.out.more HB.out.size) CatsAt.nil_ (by omega)).mono ?_
    rintro e w1 ⟨v0, rfl, ho, hb1⟩
    rw [List.append_nil] at ho
    generalize idsL cs = ids at *
    obtain ⟨Ai, m, ci, rfl, hN⟩ := NumsAt.of_own ho
    have HML := hid hN.len
    have hm : m ≤ 8796093022208 := by have := hN.len; omega
    have HO := hid ho
    have HB1 := hid hb1
    have hs1 := HP4.out.lt
    have hs2 := hb1.size
    have hsa := HB.out.size
    have HS2 := hid (HB.out.trans (hb1.mono hsa))
    clear ho hN hb1 hil
    obtain ⟨ff, hff⟩ : ∃ ff : Int → (Int × Int), ff = (fun id => (id, turnF was now (levelL d cs id) 0)) := ⟨_, rfl⟩
    rw [← hff] at HMD
    have HFF := hid hff
    clear hff
    go_wp2_with fail
    go_loopw [25] (fun vi wr => ∃ (k : Nat) (v : Value), k ≤ m ∧ vi = .int .i64 k ∧ Hid (But (fun i => i = w.heap.size + 1 + 1) w1 wr) ∧ Hid (Blk wr (w.heap.size + 1 + 1) 26 #[.int .i64 d, v]) ∧ Hid (wr.ownsRow w1.heap.size 32 2 v (mergeK ff (ids.take k)).length (flat (mergeK ff (ids.take k))))) (fun vi _ => m - (intOf vi).toNat)
    case atStart => exact ⟨0, .slice none 0 0, Nat.zero_le _, rfl, But.refl _ _, HP4.out.below HB1.out hs1, World.ownsRow_nil _ _ _ _⟩
    case round =>
      obtain ⟨k, v, hk, rfl, BW, XB, OW⟩ := hrel
      have hbr : Below w.heap.size w1 wr := BW.out.done (Below.refl _ _) (fun k hk => by subst hk; omega) (by omega)
      have HCr : Hid (CatsAt wr w.heap.size A n c cs) := (HC.out.below (HB1.out.mono hsa)).below hbr
      have K1 := hid (BW.out.blk (HP1.out.below HB1.out HP1.out.lt) (by omega))
      have K3 := hid (BW.out.blk (HP3.out.below HB1.out HP3.out.lt) (by omega))
      have hwr := BW.out.size
      clear hbr
      by_cases hlt : k < m
      · have hltz : (k : Int) < (m : Int) := by omega
        obtain ⟨ad, x, rfl, had, hx, cx⟩ := (NumsAt.but (v := v) HO.out BW.out (fun k hk => by subst hk; omega) HML.out).at_ hlt
        have HSN := hid (mergeK_snoc ff ids k x hx)
        have hkl : (mergeK ff (ids.take k)).length ≤ k := by unfold mergeK; rw [List.length_map, List.length_take]; omega
        have HFX : Hid (ff x = (x, turnF was now (levelL d cs x) 0)) := by show _ = _; rw [HFF.out]
        generalize mergeK ff (ids.take k) = K at *
        have HLT := hid (World.ownsRow.lt OW.out)
        have HL1 := hid (level38_b wr d A n c cs x (HCr.out.more (by omega)))
        have k10 : wr.cell? ⟨w.heap.size, 0, none⟩ = some (.int .i64 d) := (Blk.cell K1.out 0).trans rfl
        have k11 : wr.cell? ⟨w.heap.size, 1, none⟩ = some (.slice A n c) := (Blk.cell K1.out 1).trans rfl
        generalize levelL d cs x = l1 at *
        clear hx
        go_wp2_with fail
        refine HL1.out.mono ?_
        rintro e w2 ⟨rfl, hb2⟩
        have BW2 : Hid (But (fun i => i = w.heap.size + 1 + 1) w1 w2) := BW.out.below hb2
        have XB2 := hid (XB.out.below hb2 XB.out.lt)
        have OW2 : Hid (World.ownsRow w2 w1.heap.size 32 2 v K.length (flat K)) := World.ownsRow.kept (row := none) OW.out (only_of_below hb2 none) (by cases Value.ownBlock _ <;> simp)
        have HS3 := hid hb2.size
        obtain ⟨⟨z0, z1⟩, z2, z3⟩ := label_zero XB2.out
        clear hb2 k10 k11 HL1
        by_cases hq : l1 = was
        · have hb : (l1 == was) = true := by simpa using hq
          have HFX2 : Hid (ff x = (x, now)) := by show _ = _; rw [HFX.out]; unfold turnF; rw [if_pos hq]
          clear hq
          go_wp2_with (at_builtin; refine wpList_append_any _ rfl (.tmp 37) (.tmp 41) _ rfl w1.heap.size 32 i0 _ 2 16 Try.underlying23 hi0 hz0 hz1 hz2 rfl (by omega) v _ _ rfl (World.ownsRow.alloc OW2.out _) _ _ 1 1 [.int .u64 x, .int .i64 now] rfl (two_new _ _ _) (by simp [Value.oneCell']) (by unfold maxLen; omega) (by omega) (by have := HS3.out; simp; omega) ?_; intro v2 w3 hown3 hg3 hat3; have BW3 : Hid (But (fun i => i = w.heap.size + 1 + 1) w1 w3) := (BW2.out.alloc _).grown hg3 (fun g hg => .inr (HLT.out g hg).1); have XB3 := hid ((XB2.out.alloc _).grown hg3 (fun e => by have := (HLT.out _ e.symm).1; omega)); obtain ⟨⟨x0, x1⟩, x2, x3⟩ := label_zero XB3.out; have HV := hid hown3; obtain ⟨A2, n2, c2, rfl⟩ := own_shape HV.out; clear hown3 hg3 hat3)
          go_roundw
          case measure => simp [intOf] <;> omega
          case rel =>
            refine ⟨k + 1, _, by omega, by go_num, BW3.out.setCell (p := ⟨w.heap.size + 1 + 1, 1, none⟩) (.inl rfl) _, Blk.set_ XB3.out 1 _, ?_⟩
            rw [HSN.out, HFX2.out]
            show Hid (World.ownsRow _ _ _ _ _ (K ++ [(x, now)]).length (flat (K ++ [(x, now)])))
            rw [List.length_append, flat_append]
            exact ownsRow_setCell_below HV.out (by show w.heap.size + 1 + 1 < w1.heap.size; omega) _
        · have hb : (l1 == was) = false := by simpa using hq
          have HFX2 : Hid (ff x = (x, l1)) := by show _ = _; rw [HFX.out]; unfold turnF; rw [if_neg hq]
          clear hq
          go_wp2_with (at_builtin; refine wpList_append_any _ rfl (.tmp 37) (.tmp 41) _ rfl w1.heap.size 32 i0 _ 2 16 Try.underlying23 hi0 hz0 hz1 hz2 rfl (by omega) v _ _ rfl (World.ownsRow.alloc OW2.out _) _ _ 1 1 [.int .u64 x, .int .i64 l1] rfl (two_new _ _ _) (by simp [Value.oneCell']) (by unfold maxLen; omega) (by omega) (by have := HS3.out; simp; omega) ?_; intro v2 w3 hown3 hg3 hat3; have BW3 : Hid (But (fun i => i = w.heap.size + 1 + 1) w1 w3) := (BW2.out.alloc _).grown hg3 (fun g hg => .inr (HLT.out g hg).1); have XB3 := hid ((XB2.out.alloc _).grown hg3 (fun e => by have := (HLT.out _ e.symm).1; omega)); obtain ⟨⟨x0, x1⟩, x2, x3⟩ := label_zero XB3.out; have HV := hid hown3; obtain ⟨A2, n2, c2, rfl⟩ := own_shape HV.out; clear hown3 hg3 hat3)
          go_roundw
          case measure => simp [intOf] <;> omega
          case rel =>
            refine ⟨k + 1, _, by omega, by go_num, BW3.out.setCell (p := ⟨w.heap.size + 1 + 1, 1, none⟩) (.inl rfl) _, Blk.set_ XB3.out 1 _, ?_⟩
            rw [HSN.out, HFX2.out]
            show Hid (World.ownsRow _ _ _ _ _ (K ++ [(x, l1)]).length (flat (K ++ [(x, l1)])))
            rw [List.length_append, flat_append]
            exact ownsRow_setCell_below HV.out (by show w.heap.size + 1 + 1 < w1.heap.size; omega) _
      · have hltz : ¬ (k : Int) < (m : Int) := by omega
        have hv : OwnCats wr w1.heap.size v (turnK was now d cs) := by
          have := OW.out
          rw [List.take_of_length_le (by rw [HML.out]; omega), HMD.out] at this
          exact OwnCats.of_own this
        have hmd : (turnK was now d cs).length ≤ 8796093022208 := by
          rw [← HMD.out]; unfold mergeK; rw [List.length_map, HML.out]; exact hm
        generalize hM : turnK was now d cs = M at *
        have HM := hid hM
        clear hM
        obtain ⟨A2, n2, c2, rfl, hT2⟩ := OwnCats.at_ hv
        obtain ⟨⟨y0, y1⟩, y2, y3⟩ := label_zero XB.out
        have HT2 := hid hT2
        have HB3 : Hid (Below w.heap.size w wr) := BW.out.done HS2.out (fun k hk => by subst hk; omega) (by omega)
        clear hv hT2 OW
        go_wp2_with fail
        refine (form35 wr d A2 n2 c2 M HT2.out (by rw [← HT2.out.len]; exact hmd)).mono ?_
        rintro e w3 ⟨A3, n3, c3, rfl, hv3, hb3⟩
        have hk3 := K3.out.below hb3 K3.out.lt
        obtain ⟨⟨z0, z1⟩, z2, z3⟩ := label_zero hk3
        have HK3 := hid hk3
        have HV3 := hid hv3
        have HB4 := hid (HB3.out.trans (hb3.mono HB3.out.size))
        clear hk3 hv3 hb3
        go_wp2_with fail
        refine bodyPost_ret (label_run (label_put HK3.out _ _) rfl _ rfl) rfl ?_
        have hv4 := HV3.out
        rw [← HM.out] at hv4
        exact lab_own_end hv4 (by omega) K3.out.lt HB4.out
end Go.Proofs.Ytndohmimcbmhdaa

/- label.Right; the document's Right, Set. -/
set_option linter.unusedVariables false
set_option linter.unusedSimpArgs false
namespace Go.Proofs.Ytndohmimcbmhdaa
open Go.RowKit Go.Sort

theorem turn47 (w : World) (d was now : Int) (A : Option Addr) (n c : Nat) (cs : List (Int × Int)) (h : CatsAt w w.heap.size A n c cs) (hn : n ≤ 8796093022208) :
    Calls Try.prog 47 #[.agg #[.int .i64 d, .slice A n c], .int .i64 was, .int .i64 now] w fun e w' => RetOwn (turnF was now d d) (formL (turnF was now d d) (mergeL (turnF was now) d cs d cs)) w e w' := by
  rw [← turnK_form]; exact turn47' w d was now A n c cs h hn

theorem CatsAt.since_ {w W : World} {A : Option Addr} {n c : Nat} {cs : List (Int × Int)} (h : CatsAt w w.heap.size A n c cs) (hW : Since w W) : CatsAt W W.heap.size A n c cs := (h.below (since_below hW (Nat.le_refl _))).more hW.size
def SlR (F : List (Int × Int)) (W : World) (v : Value) : Prop := ∃ A n c, v = .slice A n c ∧ CatsAt W W.heap.size A n c F
theorem SlR.stable {F : List (Int × Int)} {w : World} : (Leaves.rel (SlR F)).stable nil_ w := fun W W' u _ hb ⟨A, n, c, e, hT⟩ => ⟨A, n, c, e, (hT.below (since_below hb (Nat.le_refl _))).more hb.size⟩

def rightB (d : Int) (cs : List (Int × Int)) : Bool := decide (1 ≤ d ∧ d ≤ 4 ∧ cs.length ≤ 6) && (eqB cs (formL d cs) && !(cs.any oddC))

set_option maxHeartbeats 2000000 in
set_option maxRecDepth 100000 in
theorem right51 (w : World) (d : Int) (A : Option Addr) (n c : Nat) (cs : List (Int × Int)) (h : CatsAt w w.heap.size A n c cs) :
    Calls Try.prog 51 #[.agg #[.int .i64 d, .slice A n c]] w fun e w' => e = .returned (.bool (rightB d cs)) ∧ Below w.heap.size w w' := by
  have mixed : Try.prog.follows .mixedOrders = true := by kernel_rfl
  have HB : Hid (Below w.heap.size w (w.alloc (.cells #[.int .i64 d, .slice A n c] 26))) := (Below.refl _ w).alloc (Nat.le_refl _) _
  have HP1 : Hid (Blk (w.alloc (.cells #[.int .i64 d, .slice A n c] 26)) w.heap.size 26 #[.int .i64 d, .slice A n c]) := Blk.new w 26 _
  have HC := hid ((h.below HB.out).more HB.out.size)
  have HLN := hid h.len
  have HR : Hid (rightB d cs = (decide (1 ≤ d ∧ d ≤ 4 ∧ cs.length ≤ 6) && (eqB cs (formL d cs) && !(cs.any oddC)))) := rfl
  clear h
  by_cases h1 : d < 1
  · have HE : Hid (rightB d cs = false) := by
      show _ = _
      rw [HR.out, decide_eq_false (by omega), Bool.false_and]
    go_enter Try.func51, Try.ntmps51
    go_wp2_with fail
    generalize w.alloc (.cells #[.int .i64 d, .slice A n c] 26) = wa at *
    have HF : Hid (∀ W, But nil_ wa W → W.cell? ⟨w.heap.size, 0, none⟩ = some (.int .i64 d) ∧ W.cell? ⟨w.heap.size, 1, none⟩ = some (.slice A n c)) := by
      intro W hW
      have r := hW.blk HP1.out (fun h => h)
      exact ⟨(Blk.cell r 0).trans rfl, (Blk.cell r 1).trans rfl⟩
    refine wp_region_told 26 nil_ mixed (by kernel_rfl) ?_
    simp only [List.take_succ_cons, List.take_zero, List.drop_succ_cons, List.drop_zero]
    repeat (first | (refine told_off (fun _ => rfl) ?_; simp only [Act.put, List.setIfInBounds_toArray, List.set_cons_zero, List.set_cons_succ, List.nil_append, List.cons_append, Nat.reduceAdd, Leaves.at]) | (refine told_val (v := ?_) (fun _ => rfl) (fun vs W hW => ?_) ?_; rotate_left; (focus (have hf := HF.out W hW; clear hW; go_simp; exact loose_val)); simp only [Act.put, List.setIfInBounds_toArray, List.set_cons_zero, List.set_cons_succ, List.nil_append, List.cons_append, Nat.reduceAdd, Leaves.at]))
    refine told_nil ?_
    intro vs W hW hok hap
    clear hap
    dsimp only
    have HB2 := hid (HB.out.trans (since_below hW HB.out.size))
    clear hok hW
    go_wp2_with fail
    go_ret
    exact ⟨by rw [HE.out]; rfl, HB2.out⟩
  · have b1 : decide (d < 1) = false := decide_eq_false h1
    by_cases h2 : 4 < d
    · have HE : Hid (rightB d cs = false) := by
        show _ = _
        rw [HR.out, decide_eq_false (by omega), Bool.false_and]
      go_enter Try.func51, Try.ntmps51
      go_wp2_with fail
      generalize w.alloc (.cells #[.int .i64 d, .slice A n c] 26) = wa at *
      have HF : Hid (∀ W, But nil_ wa W → W.cell? ⟨w.heap.size, 0, none⟩ = some (.int .i64 d) ∧ W.cell? ⟨w.heap.size, 1, none⟩ = some (.slice A n c)) := by
        intro W hW
        have r := hW.blk HP1.out (fun h => h)
        exact ⟨(Blk.cell r 0).trans rfl, (Blk.cell r 1).trans rfl⟩
      refine wp_region_told 26 nil_ mixed (by kernel_rfl) ?_
      simp only [List.take_succ_cons, List.take_zero, List.drop_succ_cons, List.drop_zero]
      repeat (first | (refine told_off (fun _ => rfl) ?_; simp only [Act.put, List.setIfInBounds_toArray, List.set_cons_zero, List.set_cons_succ, List.nil_append, List.cons_append, Nat.reduceAdd, Leaves.at]) | (refine told_val (v := ?_) (fun _ => rfl) (fun vs W hW => ?_) ?_; rotate_left; (focus (have hf := HF.out W hW; clear hW; go_simp; exact loose_val)); simp only [Act.put, List.setIfInBounds_toArray, List.set_cons_zero, List.set_cons_succ, List.nil_append, List.cons_append, Nat.reduceAdd, Leaves.at]))
      refine told_nil ?_
      intro vs W hW hok hap
      clear hap
      dsimp only
      have HB2 := hid (HB.out.trans (since_below hW HB.out.size))
      clear hok hW
      go_wp2_with fail
      go_ret
      exact ⟨by rw [HE.out]; rfl, HB2.out⟩
    · have b2 : decide (4 < d) = false := decide_eq_false h2
      by_cases h3 : 6 < n
      · have HE : Hid (rightB d cs = false) := by
          show _ = _
          rw [HR.out, decide_eq_false (by rw [HLN.out]; omega), Bool.false_and]
        have h4 : (6 : Int) < (n : Int) := by omega
        go_enter Try.func51, Try.ntmps51
        go_wp2_with fail
        generalize w.alloc (.cells #[.int .i64 d, .slice A n c] 26) = wa at *
        have HF : Hid (∀ W, But nil_ wa W → W.cell? ⟨w.heap.size, 0, none⟩ = some (.int .i64 d) ∧ W.cell? ⟨w.heap.size, 1, none⟩ = some (.slice A n c)) := by
          intro W hW
          have r := hW.blk HP1.out (fun h => h)
          exact ⟨(Blk.cell r 0).trans rfl, (Blk.cell r 1).trans rfl⟩
        refine wp_region_told 26 nil_ mixed (by kernel_rfl) ?_
        simp only [List.take_succ_cons, List.take_zero, List.drop_succ_cons, List.drop_zero]
        repeat (first | (refine told_off (fun _ => rfl) ?_; simp only [Act.put, List.setIfInBounds_toArray, List.set_cons_zero, List.set_cons_succ, List.nil_append, List.cons_append, Nat.reduceAdd, Leaves.at]) | (refine told_val (v := ?_) (fun _ => rfl) (fun vs W hW => ?_) ?_; rotate_left; (focus (have hf := HF.out W hW; clear hW; go_simp; exact loose_val)); simp only [Act.put, List.setIfInBounds_toArray, List.set_cons_zero, List.set_cons_succ, List.nil_append, List.cons_append, Nat.reduceAdd, Leaves.at]))
        refine told_nil ?_
        intro vs W hW hok hap
        clear hap
        dsimp only
        have HB2 := hid (HB.out.trans (since_below hW HB.out.size))
        clear hok hW
        go_wp2_with fail
        go_ret
        exact ⟨by rw [HE.out]; rfl, HB2.out⟩
      · have h4 : ¬ (6 : Int) < (n : Int) := by omega
        have b3 : decide ((6 : Int) < (n : Int)) = false := decide_eq_false h4
        have b4 : decide (6 < n) = false := decide_eq_false h3
        have HR2 : Hid (rightB d cs = (eqB cs (formL d cs) && !(cs.any oddC))) := by
          show _ = _
          rw [HR.out, decide_eq_true (by rw [HLN.out]; omega), Bool.true_and]
        generalize hF : formL d cs = F at *
        have HFF := hid hF
        clear hF HR
        go_enter Try.func51, Try.ntmps51
        go_wp2_with fail
        generalize w.alloc (.cells #[.int .i64 d, .slice A n c] 26) = wa at *
        have HF : Hid (∀ W, But nil_ wa W → W.cell? ⟨w.heap.size, 0, none⟩ = some (.int .i64 d) ∧ W.cell? ⟨w.heap.size, 1, none⟩ = some (.slice A n c)) := by
          intro W hW
          have r := hW.blk HP1.out (fun h => h)
          exact ⟨(Blk.cell r 0).trans rfl, (Blk.cell r 1).trans rfl⟩
        refine wp_region_told 26 nil_ mixed (by kernel_rfl) ?_
        simp only [List.take_succ_cons, List.take_zero, List.drop_succ_cons, List.drop_zero]
        repeat (first | (refine told_off (fun _ => rfl) ?_; simp only [Act.put, List.setIfInBounds_toArray, List.set_cons_zero, List.set_cons_succ, List.nil_append, List.cons_append, Nat.reduceAdd, Leaves.at]) | (refine told_val (v := ?_) (fun _ => rfl) (fun vs W hW => ?_) ?_; rotate_left; (focus (have hf := HF.out W hW; clear hW; go_simp; exact loose_val)); simp only [Act.put, List.setIfInBounds_toArray, List.set_cons_zero, List.set_cons_succ, List.nil_append, List.cons_append, Nat.reduceAdd, Leaves.at]))
        refine told_rel (LabR d F) LabR.stable (fun _ => rfl) (fun vs W hW hd => ?_) ?_
        · clear hd
          go_simp
          exact loose_callR (by rw [← HFF.out]; exact make34_l W d A n c cs (HC.out.since_ hW) (by omega))
        simp only [Act.put, List.setIfInBounds_toArray, List.set_cons_zero, List.set_cons_succ, List.nil_append, List.cons_append, Nat.reduceAdd, Leaves.at]
        refine told_rel (SlR F) SlR.stable (fun _ => rfl) (fun vs W hW hd => ?_) ?_
        · obtain ⟨A1, n1, c1, e1, hT1⟩ := hd ⟨21, .data⟩ (by simp) rfl _ rfl (fun h => by cases h)
          clear hd hW
          go_simp
          exact loose_rel (But.refl _ _) ⟨A1, n1, c1, rfl, hT1⟩
        simp only [Act.put, List.setIfInBounds_toArray, List.set_cons_zero, List.set_cons_succ, List.nil_append, List.cons_append, Nat.reduceAdd, Leaves.at]
        refine told_val' (v := .bool (eqB cs F)) (fun _ => rfl) (fun vs W hW hd => ?_) ?_
        · obtain ⟨A1, n1, c1, e1, hT1⟩ := hd ⟨22, .data⟩ (by simp) rfl _ rfl (fun h => by cases h)
          clear hd
          go_simp
          exact loose_call (equal108 W A A1 n c n1 c1 cs F (HC.out.since_ hW) hT1)
        simp only [Act.put, List.setIfInBounds_toArray, List.set_cons_zero, List.set_cons_succ, List.nil_append, List.cons_append, Nat.reduceAdd, Leaves.at]
        repeat (refine told_val (v := ?_) (fun _ => rfl) (fun vs W hW => ?_) ?_; rotate_left; (focus (have hf := HF.out W hW; clear hW; go_simp; exact loose_val)); simp only [Act.put, List.setIfInBounds_toArray, List.set_cons_zero, List.set_cons_succ, List.nil_append, List.cons_append, Nat.reduceAdd, Leaves.at])
        refine told_nil ?_
        intro vs W hW hok hap
        clear hap
        dsimp only
        have HB2 := hid (HB.out.trans (since_below hW HB.out.size))
        have HW := hid hW
        have HCW := hid (HC.out.since_ hW)
        obtain ⟨f1, f2⟩ := HF.out W hW
        clear hok hW
        generalize eqB cs F = q at *
        cases q with
        | false =>
          go_wp2_with fail
          go_ret
          exact ⟨by rw [HR2.out]; rfl, HB2.out⟩
        | true =>
          have HCF := hid (containsFunc102 W A n c cs 109 #[] oddC HCW.out (fun W' hW' x => (odd109 x W').mono fun e w' ⟨he, hb⟩ => ⟨he, hW'.trans (hb.mono hW'.size)⟩) eg109)
          generalize cs.any oddC = q2 at *
          go_wp2_with fail
          refine HCF.out.mono ?_
          rintro e w2 ⟨rfl, hb2⟩
          have HB3 := hid hb2
          clear hb2
          go_wp2_with fail
          go_ret
          exact ⟨by rw [HR2.out]; rfl, belowT HB2.out HB3.out⟩
end Go.Proofs.Ytndohmimcbmhdaa

/- The document's Right, Set. -/
set_option linter.unusedVariables false
set_option linter.unusedSimpArgs false
namespace Go.Proofs.Ytndohmimcbmhdaa
open Go.RowKit Go.Sort

theorem exact_same (d : Int) (cs F : List (Int × Int)) : exactB d cs d F = eqB cs F := by unfold exactB eqB; simp
theorem any_snoc (p : Int × Int → Bool) (cs : List (Int × Int)) (k : Nat) (x : Int × Int) (h : cs[k]? = some x) : (cs.take (k + 1)).any p = ((cs.take k).any p || p x) := by
  rw [List.take_add_one, h]; simp
theorem any_hit {p : Int × Int → Bool} {cs : List (Int × Int)} {k : Nat} {x : Int × Int} (h : cs[k]? = some x) (hp : p x = true) : cs.any p = true := by
  rw [List.any_eq_true]; exact ⟨x, List.mem_of_getElem? h, hp⟩

set_option maxHeartbeats 4000000 in
set_option maxRecDepth 100000 in
theorem right52 (w : World) (d : Int) (A : Option Addr) (n c : Nat) (cs : List (Int × Int)) (h : CatsAt w w.heap.size A n c cs) :
    Calls Try.prog 52 #[.agg #[.int .i64 d, .slice A n c]] w fun e w' => e = .returned (.bool (rightB d cs)) ∧ Below w.heap.size w w' := by
  have mixed : Try.prog.follows .mixedOrders = true := by kernel_rfl
  have HB : Hid (Below w.heap.size w (w.alloc (.cells #[.int .i64 d, .slice A n c] 26))) := (Below.refl _ w).alloc (Nat.le_refl _) _
  have HP1 : Hid (Blk (w.alloc (.cells #[.int .i64 d, .slice A n c] 26)) w.heap.size 26 #[.int .i64 d, .slice A n c]) := Blk.new w 26 _
  have HC := hid ((h.below HB.out).more HB.out.size)
  have HLN := hid h.len
  have HR : Hid (rightB d cs = (decide (1 ≤ d ∧ d ≤ 4 ∧ cs.length ≤ 6) && (eqB cs (formL d cs) && !(cs.any oddC)))) := rfl
  clear h
  by_cases h1 : d < 1
  · have HE : Hid (rightB d cs = false) := by
      show _ = _
      rw [HR.out, decide_eq_false (by omega), Bool.false_and]
    go_enter Try.func52, Try.ntmps52
    go_wp2_with fail
    generalize w.alloc (.cells #[.int .i64 d, .slice A n c] 26) = wa at *
    have HF : Hid (∀ W, But nil_ wa W → W.cell? ⟨w.heap.size, 0, none⟩ = some (.int .i64 d) ∧ W.cell? ⟨w.heap.size, 1, none⟩ = some (.slice A n c)) := by
      intro W hW
      have r := hW.blk HP1.out (fun h => h)
      exact ⟨(Blk.cell r 0).trans rfl, (Blk.cell r 1).trans rfl⟩
    refine wp_region_told 21 nil_ mixed (by kernel_rfl) ?_
    simp only [List.take_succ_cons, List.take_zero, List.drop_succ_cons, List.drop_zero]
    repeat (first | (refine told_off (fun _ => rfl) ?_; simp only [Act.put, List.setIfInBounds_toArray, List.set_cons_zero, List.set_cons_succ, List.nil_append, List.cons_append, Nat.reduceAdd, Leaves.at]) | (refine told_val (v := ?_) (fun _ => rfl) (fun vs W hW => ?_) ?_; rotate_left; (focus (have hf := HF.out W hW; clear hW; go_simp; exact loose_val)); simp only [Act.put, List.setIfInBounds_toArray, List.set_cons_zero, List.set_cons_succ, List.nil_append, List.cons_append, Nat.reduceAdd, Leaves.at]))
    refine told_nil ?_
    intro vs W hW hok hap
    clear hap
    dsimp only
    have HB2 := hid (HB.out.trans (since_below hW HB.out.size))
    clear hok hW
    go_wp2_with fail
    go_ret
    exact ⟨by rw [HE.out]; rfl, HB2.out⟩
  · have b1 : decide (d < 1) = false := decide_eq_false h1
    by_cases h2 : 4 < d
    · have HE : Hid (rightB d cs = false) := by
        show _ = _
        rw [HR.out, decide_eq_false (by omega), Bool.false_and]
      go_enter Try.func52, Try.ntmps52
      go_wp2_with fail
      generalize w.alloc (.cells #[.int .i64 d, .slice A n c] 26) = wa at *
      have HF : Hid (∀ W, But nil_ wa W → W.cell? ⟨w.heap.size, 0, none⟩ = some (.int .i64 d) ∧ W.cell? ⟨w.heap.size, 1, none⟩ = some (.slice A n c)) := by
        intro W hW
        have r := hW.blk HP1.out (fun h => h)
        exact ⟨(Blk.cell r 0).trans rfl, (Blk.cell r 1).trans rfl⟩
      refine wp_region_told 21 nil_ mixed (by kernel_rfl) ?_
      simp only [List.take_succ_cons, List.take_zero, List.drop_succ_cons, List.drop_zero]
      repeat (first | (refine told_off (fun _ => rfl) ?_; simp only [Act.put, List.setIfInBounds_toArray, List.set_cons_zero, List.set_cons_succ, List.nil_append, List.cons_append, Nat.reduceAdd, Leaves.at]) | (refine told_val (v := ?_) (fun _ => rfl) (fun vs W hW => ?_) ?_; rotate_left; (focus (have hf := HF.out W hW; clear hW; go_simp; exact loose_val)); simp only [Act.put, List.setIfInBounds_toArray, List.set_cons_zero, List.set_cons_succ, List.nil_append, List.cons_append, Nat.reduceAdd, Leaves.at]))
      refine told_nil ?_
      intro vs W hW hok hap
      clear hap
      dsimp only
      have HB2 := hid (HB.out.trans (since_below hW HB.out.size))
      clear hok hW
      go_wp2_with fail
      go_ret
      exact ⟨by rw [HE.out]; rfl, HB2.out⟩
    · have b2 : decide (4 < d) = false := decide_eq_false h2
      by_cases h3 : 6 < n
      · have HE : Hid (rightB d cs = false) := by
          show _ = _
          rw [HR.out, decide_eq_false (by rw [HLN.out]; omega), Bool.false_and]
        have h4 : (6 : Int) < (n : Int) := by omega
        go_enter Try.func52, Try.ntmps52
        go_wp2_with fail
        generalize w.alloc (.cells #[.int .i64 d, .slice A n c] 26) = wa at *
        have HF : Hid (∀ W, But nil_ wa W → W.cell? ⟨w.heap.size, 0, none⟩ = some (.int .i64 d) ∧ W.cell? ⟨w.heap.size, 1, none⟩ = some (.slice A n c)) := by
          intro W hW
          have r := hW.blk HP1.out (fun h => h)
          exact ⟨(Blk.cell r 0).trans rfl, (Blk.cell r 1).trans rfl⟩
        refine wp_region_told 21 nil_ mixed (by kernel_rfl) ?_
        simp only [List.take_succ_cons, List.take_zero, List.drop_succ_cons, List.drop_zero]
        repeat (first | (refine told_off (fun _ => rfl) ?_; simp only [Act.put, List.setIfInBounds_toArray, List.set_cons_zero, List.set_cons_succ, List.nil_append, List.cons_append, Nat.reduceAdd, Leaves.at]) | (refine told_val (v := ?_) (fun _ => rfl) (fun vs W hW => ?_) ?_; rotate_left; (focus (have hf := HF.out W hW; clear hW; go_simp; exact loose_val)); simp only [Act.put, List.setIfInBounds_toArray, List.set_cons_zero, List.set_cons_succ, List.nil_append, List.cons_append, Nat.reduceAdd, Leaves.at]))
        refine told_nil ?_
        intro vs W hW hok hap
        clear hap
        dsimp only
        have HB2 := hid (HB.out.trans (since_below hW HB.out.size))
        clear hok hW
        go_wp2_with fail
        go_ret
        exact ⟨by rw [HE.out]; rfl, HB2.out⟩
      · have h4 : ¬ (6 : Int) < (n : Int) := by omega
        have b3 : decide ((6 : Int) < (n : Int)) = false := decide_eq_false h4
        have b4 : decide (6 < n) = false := decide_eq_false h3
        have HR2 : Hid (rightB d cs = (eqB cs (formL d cs) && !(cs.any oddC))) := by
          show _ = _
          rw [HR.out, decide_eq_true (by rw [HLN.out]; omega), Bool.true_and]
        generalize hF : formL d cs = F at *
        have HFF := hid hF
        clear hF HR
        go_enter Try.func52, Try.ntmps52
        go_wp2_with fail
        generalize w.alloc (.cells #[.int .i64 d, .slice A n c] 26) = wa at *
        have HF : Hid (∀ W, But nil_ wa W → W.cell? ⟨w.heap.size, 0, none⟩ = some (.int .i64 d) ∧ W.cell? ⟨w.heap.size, 1, none⟩ = some (.slice A n c)) := by
          intro W hW
          have r := hW.blk HP1.out (fun h => h)
          exact ⟨(Blk.cell r 0).trans rfl, (Blk.cell r 1).trans rfl⟩
        refine wp_region_told 21 nil_ mixed (by kernel_rfl) ?_
        simp only [List.take_succ_cons, List.take_zero, List.drop_succ_cons, List.drop_zero]
        repeat (first | (refine told_off (fun _ => rfl) ?_; simp only [Act.put, List.setIfInBounds_toArray, List.set_cons_zero, List.set_cons_succ, List.nil_append, List.cons_append, Nat.reduceAdd, Leaves.at]) | (refine told_val (v := ?_) (fun _ => rfl) (fun vs W hW => ?_) ?_; rotate_left; (focus (have hf := HF.out W hW; clear hW; go_simp; exact loose_val)); simp only [Act.put, List.setIfInBounds_toArray, List.set_cons_zero, List.set_cons_succ, List.nil_append, List.cons_append, Nat.reduceAdd, Leaves.at]))
        refine told_rel (LabR d F) LabR.stable (fun _ => rfl) (fun vs W hW hd => ?_) ?_
        · clear hd
          go_simp
          exact loose_callR (by rw [← HFF.out]; exact (form35 W d A n c cs (HC.out.since_ hW) (by omega)).mono fun _ _ h => h.lab)
        simp only [Act.put, List.setIfInBounds_toArray, List.set_cons_zero, List.set_cons_succ, List.nil_append, List.cons_append, Nat.reduceAdd, Leaves.at]
        refine told_val' (v := .bool (eqB cs F)) (fun _ => rfl) (fun vs W hW hd => ?_) ?_
        · obtain ⟨A1, n1, c1, e1, hT1⟩ := hd ⟨17, .data⟩ (by simp) rfl _ rfl (fun h => by cases h)
          clear hd
          have hcc := exact36 W d d A A1 n c n1 c1 cs F (HC.out.since_ hW) hT1
          rw [exact_same] at hcc
          have HCC := hid hcc
          clear hcc
          go_simp
          exact loose_call HCC.out
        simp only [Act.put, List.setIfInBounds_toArray, List.set_cons_zero, List.set_cons_succ, List.nil_append, List.cons_append, Nat.reduceAdd, Leaves.at]
        repeat (refine told_val (v := ?_) (fun _ => rfl) (fun vs W hW => ?_) ?_; rotate_left; (focus (have hf := HF.out W hW; clear hW; go_simp; exact loose_val)); simp only [Act.put, List.setIfInBounds_toArray, List.set_cons_zero, List.set_cons_succ, List.nil_append, List.cons_append, Nat.reduceAdd, Leaves.at])
        refine told_nil ?_
        intro vs W hW hok hap
        clear hap
        dsimp only
        have HB2 := hid (HB.out.trans (since_below hW HB.out.size))
        have HW := hid hW
        have HCW := hid (HC.out.since_ hW)
        obtain ⟨f1, f2⟩ := HF.out W hW
        clear hok hW
        generalize eqB cs F = q at *
        cases q with
        | false =>
          go_wp2_with fail
          go_ret
          exact ⟨by rw [HR2.out]; rfl, HB2.out⟩
        | true =>
          have h6 : n ≤ 6 := by omega
          go_wp2_with fail
          go_loopw [29] (fun vi wr => ∃ k : Nat, k ≤ n ∧ vi = .int .i64 k ∧ Hid (Since W wr) ∧ Hid ((cs.take k).any oddC = false)) (fun vi _ => n - (intOf vi).toNat)
          case atStart => exact ⟨0, Nat.zero_le _, rfl, But.refl _ _, rfl⟩
          case round =>
            obtain ⟨k, hk, rfl, BW, AN⟩ := hrel
            by_cases hlt : k < n
            · have hltz : (k : Int) < (n : Int) := by omega
              obtain ⟨b, off, i, v, rfl, hbB, hx, c0, c1⟩ := (HCW.out.since_ BW.out).at2_ hlt
              have HX := hid hx
              have HAS := hid (any_snoc oddC cs k _ hx)
              have HBr := hid (HB2.out.trans (since_below (BW.out.alloc (.cells #[.int .u64 i, .int .i64 v] 32)) HB2.out.size))
              clear hx
              by_cases g1 : i < 1
              · have HE : Hid (rightB d cs = false) := by show _ = _; rw [HR2.out, any_hit HX.out (decide_eq_true (.inl g1))]; rfl
                go_wp2_with fail
                go_ret
                exact ⟨by rw [HE.out]; rfl, HBr.out⟩
              · by_cases g2 : 2305843009213693951 < i
                · have HE : Hid (rightB d cs = false) := by show _ = _; rw [HR2.out, any_hit HX.out (decide_eq_true (.inr (.inl g2)))]; rfl
                  go_wp2_with fail
                  go_ret
                  exact ⟨by rw [HE.out]; rfl, HBr.out⟩
                · by_cases g3 : v < 0
                  · have HE : Hid (rightB d cs = false) := by show _ = _; rw [HR2.out, any_hit HX.out (decide_eq_true (.inr (.inr (.inl g3))))]; rfl
                    go_wp2_with fail
                    go_ret
                    exact ⟨by rw [HE.out]; rfl, HBr.out⟩
                  · by_cases g4 : 4 < v
                    · have HE : Hid (rightB d cs = false) := by show _ = _; rw [HR2.out, any_hit HX.out (decide_eq_true (.inr (.inr (.inr g4))))]; rfl
                      go_wp2_with fail
                      go_ret
                      exact ⟨by rw [HE.out]; rfl, HBr.out⟩
                    · have HO : Hid (oddC (i, v) = false) := decide_eq_false (by simp only; omega)
                      go_wp2_with fail
                      go_roundw
                      case measure => simp [intOf] <;> omega
                      case rel => exact ⟨k + 1, by omega, by go_num, BW.out.alloc _, by rw [HAS.out, AN.out, HO.out]; rfl⟩
            · have hltz : ¬ (k : Int) < (n : Int) := by omega
              have HE : Hid (rightB d cs = true) := by
                show _ = _
                have := AN.out
                rw [List.take_of_length_le (by rw [HLN.out]; omega)] at this
                rw [HR2.out, this]; rfl
              have HBr := hid (HB2.out.trans (since_below BW.out HB2.out.size))
              go_wp2_with fail
              go_ret
              exact ⟨by rw [HE.out]; rfl, HBr.out⟩

set_option maxHeartbeats 2000000 in
set_option maxRecDepth 100000 in
theorem set50 (w : World) (d id lv : Int) (A : Option Addr) (n c : Nat) (cs : List (Int × Int)) (h : CatsAt w w.heap.size A n c cs) (hn : n + 1 ≤ 8796093022208) :
    Calls Try.prog 50 #[.agg #[.int .i64 d, .slice A n c], .int .u64 id, .int .i64 lv] w fun e w' => RetOwn d (formL d ((id, lv) :: cs)) w e w' := by
  have mixed : Try.prog.follows .mixedOrders = true := by kernel_rfl
  obtain ⟨i0, hi0, hz0, hz1, hz2⟩ := info_parts cat_info
  obtain ⟨q1, q2, q3, q4⟩ := three_blk w #[.int .i64 d, .slice A n c] #[.int .i64 0, .slice none 0 0] #[.int .u64 id, .int .i64 lv] 26 26 32
  have HB := hid q1
  have HP1 := hid q2
  have HP2 := hid q3
  have HP3 := hid q4
  have HR := hid ((h.below q1).reads)
  have HLN := hid h.len
  have hO : World.ownsRow (((w.alloc (.cells #[.int .i64 d, .slice A n c] 26)).alloc (.cells #[.int .i64 0, .slice none 0 0] 26)).alloc (.cells #[.int .u64 id, .int .i64 lv] 32)) (w.heap.size + 1 + 1) 32 2 (.slice (some ⟨w.heap.size + 1 + 1, 0, none⟩) 1 1) 1 [.int .u64 id, .int .i64 lv] :=
    ⟨rfl, .inr ⟨w.heap.size + 1 + 1, 1, #[.int .u64 id, .int .i64 lv], rfl, Nat.le_refl _, q4, Nat.le_refl _, by unfold maxLen; omega, rfl, rfl⟩⟩
  have HO := hid hO
  clear h q1 q2 q3 q4 hO
  go_enter Try.func50, Try.ntmps50
  go_wp2_with fail
  generalize ((w.alloc (.cells #[.int .i64 d, .slice A n c] 26)).alloc (.cells #[.int .i64 0, .slice none 0 0] 26)).alloc (.cells #[.int .u64 id, .int .i64 lv] 32) = wa at *
  have hsa := HP3.out.lt
  have HF : Hid (∀ W, But (fun i => i = w.heap.size + 1 + 1) wa W → W.cell? ⟨w.heap.size, 0, none⟩ = some (.int .i64 d) ∧ W.cell? ⟨w.heap.size, 1, none⟩ = some (.slice A n c)) := by
    intro W hW
    have r := hW.blk HP1.out (by omega)
    exact ⟨(Blk.cell r 0).trans rfl, (Blk.cell r 1).trans rfl⟩
  refine wp_region_told 6 (fun i => i = w.heap.size + 1 + 1) mixed (by kernel_rfl) ?_
  simp only [List.take_succ_cons, List.take_zero, List.drop_succ_cons, List.drop_zero]
  repeat (refine told_val (v := ?_) (fun _ => rfl) (fun vs W hW => ?_) ?_; rotate_left; (focus (have hf := HF.out W hW; clear hW; go_simp; exact loose_val)); simp only [Act.put, List.setIfInBounds_toArray, List.set_cons_zero, List.set_cons_succ, List.nil_append, List.cons_append, Nat.reduceAdd, Leaves.at])
  refine told_own (fun W v => OwnCats W (w.heap.size + 1 + 1) v ((id, lv) :: cs)) ownCats_own rfl (fun _ => rfl) (fun vs W hW hd => ?_) ?_
  · have ho : World.ownsRow W (w.heap.size + 1 + 1) 32 2 (.slice (some ⟨w.heap.size + 1 + 1, 0, none⟩) 1 1) 1 [.int .u64 id, .int .i64 lv] := World.ownsRow.kept (row := none) HO.out (only_of_below (since_below hW (Nat.le_refl _)) none) (.inr (by simp [Value.ownBlock]))
    refine loose_append W (.tmp 14) (.tmp 16) 23 rfl (w.heap.size + 1 + 1) 32 i0 _ 2 16 Try.underlying23 hi0 hz0 hz1 hz2 rfl (by omega) (.slice (some ⟨w.heap.size + 1 + 1, 0, none⟩) 1 1) 1 [.int .u64 id, .int .i64 lv] rfl ho w.heap.size A n c (flat cs) rfl (HR.out.below (since_below hW HB.out.size)) (flat_one cs) (by unfold maxLen; omega) (by omega) (by have := hW.size; omega) ?_
    intro v' w' ho' hg _
    exact ⟨(But.refl _ W).grown hg (fun g e => .inl (by simpa [Value.ownBlock] using e.symm)), OwnCats.of_own (by rw [show ((id, lv) :: cs).length = 1 + n by rw [List.length_cons, HLN.out]; omega]; exact ho'), trivial⟩
  simp only [Act.put, List.setIfInBounds_toArray, List.set_cons_zero, List.set_cons_succ, List.nil_append, List.cons_append, Nat.reduceAdd, Leaves.at]
  refine told_nil ?_
  intro vs W hW hok hap
  clear hap
  dsimp only
  have hv := hok 5 _ rfl rfl
  have HB2 : Hid (Below w.heap.size w W) := hW.done HB.out (fun k hk => by subst hk; omega) (by omega)
  obtain ⟨A1, n1, c1, e1, hT1⟩ := OwnCats.at_ hv
  have HT1 := hid hT1
  have HK2 := hid (hW.blk HP2.out (by omega))
  have hsW := hW.size
  clear hok hW hv hT1
  rw [e1]
  clear e1
  go_wp2_with fail
  refine (form35 W d A1 n1 c1 ((id, lv) :: cs) HT1.out (by have q1 := HT1.out.len; have q2 := HLN.out; rw [List.length_cons] at q1; omega)).mono ?_
  rintro e w3 ⟨A3, n3, c3, rfl, hv3, hb3⟩
  have HK3 := hid (HK2.out.below hb3 HK2.out.lt)
  obtain ⟨⟨z0, z1⟩, z2, z3⟩ := label_zero HK3.out
  have HV3 := hid hv3
  have HB4 := hid (HB2.out.trans (hb3.mono HB2.out.size))
  clear hv3 hb3
  go_wp2_with fail
  refine bodyPost_ret (label_run (label_put HK3.out _ _) rfl _ rfl) rfl ?_
  exact lab_own_end HV3.out (by omega) (by omega) HB4.out
end Go.Proofs.Ytndohmimcbmhdaa
