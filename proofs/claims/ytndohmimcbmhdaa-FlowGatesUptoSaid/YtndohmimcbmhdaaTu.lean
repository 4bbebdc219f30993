/- The document's Turn, Set; its functions hand back what the program's do. -/
import Derived.Test.YtndohmimcbmhdaaMe
set_option linter.unusedVariables false
set_option linter.unusedSimpArgs false
namespace Go.Proofs.Ytndohmimcbmhdaa
open Go.RowKit Go.Sort

def turnK (was now d : Int) (cs : List (Int × Int)) : List (Int × Int) := mergeK (fun id => (id, turnF was now (levelL d cs id) 0)) (idsL cs)
theorem turnK_level (was now d : Int) (cs : List (Int × Int)) (id : Int) : levelL (turnF was now d d) (turnK was now d cs) id = turnF was now (levelL d cs id) (levelL d cs id) := by
  unfold turnK mergeK
  rw [levelL_map (turnF was now d d) (fun id => turnF was now (levelL d cs id) 0)]
  split
  · rfl
  · rename_i h
    rw [idsL_mem] at h
    rw [levelL_none d cs id fun c hc he => h ⟨c, hc, he⟩]
theorem turnK_form (was now d : Int) (cs : List (Int × Int)) : formL (turnF was now d d) (turnK was now d cs) = formL (turnF was now d d) (mergeL (turnF was now) d cs d cs) :=
  (formL_is _ _).same (formL_is _ _) fun id => by rw [turnK_level, levelL_merge (turnF was now)]
theorem mergeD_form (f : Int → Int → Int) (d : Int) (cs : List (Int × Int)) (d' : Int) (cs' : List (Int × Int)) : formL (f d d') (mergeD f d cs d' cs') = formL (f d d') (mergeL f d cs d' cs') :=
  (formL_is _ _).same (formL_is _ _) fun id => by rw [levelL_mergeD, levelL_merge]

set_option maxHeartbeats 4000000 in
set_option maxRecDepth 100000 in
theorem turn47' (w : World) (d was now : Int) (A : Option Addr) (n c : Nat) (cs : List (Int × Int)) (h : CatsAt w w.heap.size A n c cs) (hn : n ≤ 8796093022208) :
    Calls Try.prog 47 #[.agg #[.int .i64 d, .slice A n c], .int .i64 was, .int .i64 now] w fun e w' => RetOwn (turnF was now d d) (formL (turnF was now d d) (turnK was now d cs)) w e w' := by
  have mixed : Try.prog.follows .mixedOrders = true := by kernel_rfl
  obtain ⟨i0, hi0, hz0, hz1, hz2⟩ := info_parts cat_info
  obtain ⟨dd, hdd⟩ : ∃ dd, turnF was now d d = dd := ⟨_, rfl⟩
  have HPD := hid hdd
  obtain ⟨q1, q2, q3, q4⟩ := three_blk w #[.int .i64 d, .slice A n c] #[.int .i64 0, .slice none 0 0] #[.int .i64 dd, .slice none 0 0] 26 26 26
  have HB := hid q1
  have HP1 := hid q2
  have HP3 := hid q3
  have HP4 := hid q4
  have HC := hid (h.below q1)
  have HMD : Hid (mergeK (fun id => (id, turnF was now (levelL d cs id) 0)) (idsL cs) = turnK was now d cs) := rfl
  have hil := idsL_len cs
  rw [h.len] at hil
  rw [HPD.out]
  clear h q1 q2 q3 q4
  by_cases hd : d = was
  · subst hd
    obtain rfl : now = dd := by rw [← hdd]; unfold turnF; rw [if_pos rfl]
    clear hdd
    go_enter Try.func47, Try.ntmps47
    go_wp2_with fail
    generalize ((w.alloc (.cells #[.int .i64 d, .slice A n c] 26)).alloc (.cells #[.int .i64 0, .slice none 0 0] 26)).alloc (.cells #[.int .i64 now, .slice none 0 0] 26) = wa at *
    refine (ids100 wa d 0 A none n c 0 0 cs [] (HC.out.more HB.out.size) CatsAt.nil_ (by omega)).mono ?_
    rintro e w1 ⟨v0, rfl, ho, hb1⟩
    rw [List.append_nil] at ho
    generalize idsL cs = ids at *
    obtain ⟨Ai, m, ci, rfl, hN⟩ := NumsAt.of_own ho
    have HML := hid hN.len
    have hm : m ≤ 8796093022208 := by have := hN.len; omega
    have HO := hid ho
    have HB1 := hid hb1
    have hs1 := HP4.out.lt
    have hs2 := hb1.size
    have hsa := HB.out.size
    have HS2 := hid (HB.out.trans (hb1.mono hsa))
    clear ho hN hb1 hil
    obtain ⟨ff, hff⟩ : ∃ ff : Int → (Int × Int), ff = (fun id => (id, turnF d now (levelL d cs id) 0)) := ⟨_, rfl⟩
    rw [← hff] at HMD
    have HFF := hid hff
    clear hff
    go_wp2_with fail
    go_loopw [25] (fun vi wr => ∃ (k : Nat) (v : Value), k ≤ m ∧ vi = .int .i64 k ∧ Hid (But (fun i => i = w.heap.size + 1 + 1) w1 wr) ∧ Hid (Blk wr (w.heap.size + 1 + 1) 26 #[.int .i64 now, v]) ∧ Hid (wr.ownsRow w1.heap.size 32 2 v (mergeK ff (ids.take k)).length (flat (mergeK ff (ids.take k))))) (fun vi _ => m - (intOf vi).toNat)
    case atStart => exact ⟨0, .slice none 0 0, Nat.zero_le _, rfl, But.refl _ _, HP4.out.below HB1.out hs1, World.ownsRow_nil _ _ _ _⟩
    case round =>
      obtain ⟨k, v, hk, rfl, BW, XB, OW⟩ := hrel
      have hbr : Below w.heap.size w1 wr := BW.out.done (Below.refl _ _) (fun k hk => by subst hk; omega) (by omega)
      have HCr : Hid (CatsAt wr w.heap.size A n c cs) := (HC.out.below (HB1.out.mono hsa)).below hbr
      have K1 := hid (BW.out.blk (HP1.out.below HB1.out HP1.out.lt) (by omega))
      have K3 := hid (BW.out.blk (HP3.out.below HB1.out HP3.out.lt) (by omega))
      have hwr := BW.out.size
      clear hbr
      by_cases hlt : k < m
      · have hltz : (k : Int) < (m : Int) := by omega
        obtain ⟨ad, x, rfl, had, hx, cx⟩ := (NumsAt.but (v := v) HO.out BW.out (fun k hk => by subst hk; omega) HML.out).at_ hlt
        have HSN := hid (mergeK_snoc ff ids k x hx)
        have hkl : (mergeK ff (ids.take k)).length ≤ k := by unfold mergeK; rw [List.length_map, List.length_take]; omega
        have HFX : Hid (ff x = (x, turnF d now (levelL d cs x) 0)) := by show _ = _; rw [HFF.out]
        generalize mergeK ff (ids.take k) = K at *
        have HLT := hid (World.ownsRow.lt OW.out)
        have HL1 := hid (level38_b wr d A n c cs x (HCr.out.more (by omega)))
        have k10 : wr.cell? ⟨w.heap.size, 0, none⟩ = some (.int .i64 d) := (Blk.cell K1.out 0).trans rfl
        have k11 : wr.cell? ⟨w.heap.size, 1, none⟩ = some (.slice A n c) := (Blk.cell K1.out 1).trans rfl
        generalize levelL d cs x = l1 at *
        clear hx
        go_wp2_with fail
        refine HL1.out.mono ?_
        rintro e w2 ⟨rfl, hb2⟩
        have BW2 : Hid (But (fun i => i = w.heap.size + 1 + 1) w1 w2) := BW.out.below hb2
        have XB2 := hid (XB.out.below hb2 XB.out.lt)
        have OW2 : Hid (World.ownsRow w2 w1.heap.size 32 2 v K.length (flat K)) := World.ownsRow.kept (row := none) OW.out (only_of_below hb2 none) (by cases Value.ownBlock _ <;> simp)
        have HS3 := hid hb2.size
        obtain ⟨⟨z0, z1⟩, z2, z3⟩ := label_zero XB2.out
        clear hb2 k10 k11 HL1
        by_cases hq : l1 = d
        · have hb : (l1 == d) = true := by simpa using hq
          have HFX2 : Hid (ff x = (x, now)) := by show _ = _; rw [HFX.out]; unfold turnF; rw [if_pos hq]
          clear hq
          go_wp2_with (at_builtin; refine wpList_append_any _ rfl (.tmp 37) (.tmp 41) _ rfl w1.heap.size 32 i0 _ 2 16 Try.underlying23 hi0 hz0 hz1 hz2 rfl (by omega) v _ _ rfl (World.ownsRow.alloc OW2.out _) _ _ 1 1 [.int .u64 x, .int .i64 now] rfl (two_new _ _ _) (by simp [Value.oneCell']) (by unfold maxLen; omega) (by omega) (by have := HS3.out; simp; omega) ?_; intro v2 w3 hown3 hg3 hat3; have BW3 : Hid (But (fun i => i = w.heap.size + 1 + 1) w1 w3) := (BW2.out.alloc _).grown hg3 (fun g hg => .inr (HLT.out g hg).1); have XB3 := hid ((XB2.out.alloc _).grown hg3 (fun e => by have := (HLT.out _ e.symm).1; omega)); obtain ⟨⟨x0, x1⟩, x2, x3⟩ := label_zero XB3.out; have HV := hid hown3; obtain ⟨A2, n2, c2, rfl⟩ := own_shape HV.out; clear hown3 hg3 hat3)
          go_roundw
          case measure => simp [intOf] <;> omega
          case rel =>
            refine ⟨k + 1, _, by omega, by go_num, BW3.out.setCell (p := ⟨w.heap.size + 1 + 1, 1, none⟩) (.inl rfl) _, Blk.set_ XB3.out 1 _, ?_⟩
            rw [HSN.out, HFX2.out]
            show Hid (World.ownsRow _ _ _ _ _ (K ++ [(x, now)]).length (flat (K ++ [(x, now)])))
            rw [List.length_append, flat_append]
            exact ownsRow_setCell_below HV.out (by show w.heap.size + 1 + 1 < w1.heap.size; omega) _
        · have hb : (l1 == d) = false := by simpa using hq
          have HFX2 : Hid (ff x = (x, l1)) := by show _ = _; rw [HFX.out]; unfold turnF; rw [if_neg hq]
          clear hq
          go_wp2_with (at_builtin; refine wpList_append_any _ rfl (.tmp 37) (.tmp 41) _ rfl w1.heap.size 32 i0 _ 2 16 Try.underlying23 hi0 hz0 hz1 hz2 rfl (by omega) v _ _ rfl (World.ownsRow.alloc OW2.out _) _ _ 1 1 [.int .u64 x, .int .i64 l1] rfl (two_new _ _ _) (by simp [Value.oneCell']) (by unfold maxLen; omega) (by omega) (by have := HS3.out; simp; omega) ?_; intro v2 w3 hown3 hg3 hat3; have BW3 : Hid (But (fun i => i = w.heap.size + 1 + 1) w1 w3) := (BW2.out.alloc _).grown hg3 (fun g hg => .inr (HLT.out g hg).1); have XB3 := hid ((XB2.out.alloc _).grown hg3 (fun e => by have := (HLT.out _ e.symm).1; omega)); obtain ⟨⟨x0, x1⟩, x2, x3⟩ := label_zero XB3.out; have HV := hid hown3; obtain ⟨A2, n2, c2, rfl⟩ := own_shape HV.out; clear hown3 hg3 hat3)
          go_roundw
          case measure => simp [intOf] <;> omega
          case rel =>
            refine ⟨k + 1, _, by omega, by go_num, BW3.out.setCell (p := ⟨w.heap.size + 1 + 1, 1, none⟩) (.inl rfl) _, Blk.set_ XB3.out 1 _, ?_⟩
            rw [HSN.out, HFX2.out]
            show Hid (World.ownsRow _ _ _ _ _ (K ++ [(x, l1)]).length (flat (K ++ [(x, l1)])))
            rw [List.length_append, flat_append]
            exact ownsRow_setCell_below HV.out (by show w.heap.size + 1 + 1 < w1.heap.size; omega) _
      · have hltz : ¬ (k : Int) < (m : Int) := by omega
        have hv : OwnCats wr w1.heap.size v (turnK d now d cs) := by
          have := OW.out
          rw [List.take_of_length_le (by rw [HML.out]; omega), HMD.out] at this
          exact OwnCats.of_own this
        have hmd : (turnK d now d cs).length ≤ 8796093022208 := by
          rw [← HMD.out]; unfold mergeK; rw [List.length_map, HML.out]; exact hm
        generalize hM : turnK d now d cs = M at *
        have HM := hid hM
        clear hM
        obtain ⟨A2, n2, c2, rfl, hT2⟩ := OwnCats.at_ hv
        obtain ⟨⟨y0, y1⟩, y2, y3⟩ := label_zero XB.out
        have HT2 := hid hT2
        have HB3 : Hid (Below w.heap.size w wr) := BW.out.done HS2.out (fun k hk => by subst hk; omega) (by omega)
        clear hv hT2 OW
        go_wp2_with fail
        refine (form35 wr now A2 n2 c2 M HT2.out (by rw [← HT2.out.len]; exact hmd)).mono ?_
        rintro e w3 ⟨A3, n3, c3, rfl, hv3, hb3⟩
        have hk3 := K3.out.below hb3 K3.out.lt
        obtain ⟨⟨z0, z1⟩, z2, z3⟩ := label_zero hk3
        have HK3 := hid hk3
        have HV3 := hid hv3
        have HB4 := hid (HB3.out.trans (hb3.mono HB3.out.size))
        clear hk3 hv3 hb3
        go_wp2_with fail
        refine bodyPost_ret (label_run (label_put HK3.out _ _) rfl _ rfl) rfl ?_
        have hv4 := HV3.out
        rw [← HM.out] at hv4
        exact lab_own_end hv4 (by omega) K3.out.lt HB4.out
  · have hdb : (d == was) = false := by simpa using hd
    obtain rfl : d = dd := by rw [← hdd]; unfold turnF; rw [if_neg hd]
    clear hdd hd
    go_enter Try.func47, Try.ntmps47
    go_wp2_with fail
    generalize ((w.alloc (.cells #[.int .i64 d, .slice A n c] 26)).alloc (.cells #[.int .i64 0, .slice none 0 0] 26)).alloc (.cells #[.int .i64 d, .slice none 0 0] 26) = wa at *
    refine (ids100 wa d 0 A none n c 0 0 cs [] (HC.out.more HB.out.size) CatsAt.nil_ (by omega)).mono ?_
    rintro e w1 ⟨v0, rfl, ho, hb1⟩
    rw [List.append_nil] at ho
    generalize idsL cs = ids at *
    obtain ⟨Ai, m, ci, rfl, hN⟩ := NumsAt.of_own ho
    have HML := hid hN.len
    have hm : m ≤ 8796093022208 := by have := hN.len; omega
    have HO := hid ho
    have HB1 := hid hb1
    have hs1 := HP4.out.lt
    have hs2 := hb1.size
    have hsa := HB.out.size
    have HS2 := hid (HB.out.trans (hb1.mono hsa))
    clear ho hN hb1 hil
    obtain ⟨ff, hff⟩ : ∃ ff : Int → (Int × Int), ff = (fun id => (id, turnF was now (levelL d cs id) 0)) := ⟨_, rfl⟩
    rw [← hff] at HMD
    have HFF := hid hff
    clear hff
    go_wp2_with fail
    go_loopw [25] (fun vi wr => ∃ (k : Nat) (v : Value), k ≤ m ∧ vi = .int .i64 k ∧ Hid (But (fun i => i = w.heap.size + 1 + 1) w1 wr) ∧ Hid (Blk wr (w.heap.size + 1 + 1) 26 #[.int .i64 d, v]) ∧ Hid (wr.ownsRow w1.heap.size 32 2 v (mergeK ff (ids.take k)).length (flat (mergeK ff (ids.take k))))) (fun vi _ => m - (intOf vi).toNat)
    case atStart => exact ⟨0, .slice none 0 0, Nat.zero_le _, rfl, But.refl _ _, HP4.out.below HB1.out hs1, World.ownsRow_nil _ _ _ _⟩
    case round =>
      obtain ⟨k, v, hk, rfl, BW, XB, OW⟩ := hrel
      have hbr : Below w.heap.size w1 wr := BW.out.done (Below.refl _ _) (fun k hk => by subst hk; omega) (by omega)
      have HCr : Hid (CatsAt wr w.heap.size A n c cs) := (HC.out.below (HB1.out.mono hsa)).below hbr
      have K1 := hid (BW.out.blk (HP1.out.below HB1.out HP1.out.lt) (by omega))
      have K3 := hid (BW.out.blk (HP3.out.below HB1.out HP3.out.lt) (by omega))
      have hwr := BW.out.size
      clear hbr
      by_cases hlt : k < m
      · have hltz : (k : Int) < (m : Int) := by omega
        obtain ⟨ad, x, rfl, had, hx, cx⟩ := (NumsAt.but (v := v) HO.out BW.out (fun k hk => by subst hk; omega) HML.out).at_ hlt
        have HSN := hid (mergeK_snoc ff ids k x hx)
        have hkl : (mergeK ff (ids.take k)).length ≤ k := by unfold mergeK; rw [List.length_map, List.length_take]; omega
        have HFX : Hid (ff x = (x, turnF was now (levelL d cs x) 0)) := by show _ = _; rw [HFF.out]
        generalize mergeK ff (ids.take k) = K at *
        have HLT := hid (World.ownsRow.lt OW.out)
        have HL1 := hid (level38_b wr d A n c cs x (HCr.out.more (by omega)))
        have k10 : wr.cell? ⟨w.heap.size, 0, none⟩ = some (.int .i64 d) := (Blk.cell K1.out 0).trans rfl
        have k11 : wr.cell? ⟨w.heap.size, 1, none⟩ = some (.slice A n c) := (Blk.cell K1.out 1).trans rfl
        generalize levelL d cs x = l1 at *
        clear hx
        go_wp2_with fail
        refine HL1.out.mono ?_
        rintro e w2 ⟨rfl, hb2⟩
        have BW2 : Hid (But (fun i => i = w.heap.size + 1 + 1) w1 w2) := BW.out.below hb2
        have XB2 := hid (XB.out.below hb2 XB.out.lt)
        have OW2 : Hid (World.ownsRow w2 w1.heap.size 32 2 v K.length (flat K)) := World.ownsRow.kept (row := none) OW.out (only_of_below hb2 none) (by cases Value.ownBlock _ <;> simp)
        have HS3 := hid hb2.size
        obtain ⟨⟨z0, z1⟩, z2, z3⟩ := label_zero XB2.out
        clear hb2 k10 k11 HL1
        by_cases hq : l1 = was
        · have hb : (l1 == was) = true := by simpa using hq
          have HFX2 : Hid (ff x = (x, now)) := by show _ = _; rw [HFX.out]; unfold turnF; rw [if_pos hq]
          clear hq
          go_wp2_with (at_builtin; refine wpList_append_any _ rfl (.tmp 37) (.tmp 41) _ rfl w1.heap.size 32 i0 _ 2 16 Try.underlying23 hi0 hz0 hz1 hz2 rfl (by omega) v _ _ rfl (World.ownsRow.alloc OW2.out _) _ _ 1 1 [.int .u64 x, .int .i64 now] rfl (two_new _ _ _) (by simp [Value.oneCell']) (by unfold maxLen; omega) (by omega) (by have := HS3.out; simp; omega) ?_; intro v2 w3 hown3 hg3 hat3; have BW3 : Hid (But (fun i => i = w.heap.size + 1 + 1) w1 w3) := (BW2.out.alloc _).grown hg3 (fun g hg => .inr (HLT.out g hg).1); have XB3 := hid ((XB2.out.alloc _).grown hg3 (fun e => by have := (HLT.out _ e.symm).1; omega)); obtain ⟨⟨x0, x1⟩, x2, x3⟩ := label_zero XB3.out; have HV := hid hown3; obtain ⟨A2, n2, c2, rfl⟩ := own_shape HV.out; clear hown3 hg3 hat3)
          go_roundw
          case measure => simp [intOf] <;> omega
          case rel =>
            refine ⟨k + 1, _, by omega, by go_num, BW3.out.setCell (p := ⟨w.heap.size + 1 + 1, 1, none⟩) (.inl rfl) _, Blk.set_ XB3.out 1 _, ?_⟩
            rw [HSN.out, HFX2.out]
            show Hid (World.ownsRow _ _ _ _ _ (K ++ [(x, now)]).length (flat (K ++ [(x, now)])))
            rw [List.length_append, flat_append]
            exact ownsRow_setCell_below HV.out (by show w.heap.size + 1 + 1 < w1.heap.size; omega) _
        · have hb : (l1 == was) = false := by simpa using hq
          have HFX2 : Hid (ff x = (x, l1)) := by show _ = _; rw [HFX.out]; unfold turnF; rw [if_neg hq]
          clear hq
          go_wp2_with (at_builtin; refine wpList_append_any _ rfl (.tmp 37) (.tmp 41) _ rfl w1.heap.size 32 i0 _ 2 16 Try.underlying23 hi0 hz0 hz1 hz2 rfl (by omega) v _ _ rfl (World.ownsRow.alloc OW2.out _) _ _ 1 1 [.int .u64 x, .int .i64 l1] rfl (two_new _ _ _) (by simp [Value.oneCell']) (by unfold maxLen; omega) (by omega) (by have := HS3.out; simp; omega) ?_; intro v2 w3 hown3 hg3 hat3; have BW3 : Hid (But (fun i => i = w.heap.size + 1 + 1) w1 w3) := (BW2.out.alloc _).grown hg3 (fun g hg => .inr (HLT.out g hg).1); have XB3 := hid ((XB2.out.alloc _).grown hg3 (fun e => by have := (HLT.out _ e.symm).1; omega)); obtain ⟨⟨x0, x1⟩, x2, x3⟩ := label_zero XB3.out; have HV := hid hown3; obtain ⟨A2, n2, c2, rfl⟩ := own_shape HV.out; clear hown3 hg3 hat3)
          go_roundw
          case measure => simp [intOf] <;> omega
          case rel =>
            refine ⟨k + 1, _, by omega, by go_num, BW3.out.setCell (p := ⟨w.heap.size + 1 + 1, 1, none⟩) (.inl rfl) _, Blk.set_ XB3.out 1 _, ?_⟩
            rw [HSN.out, HFX2.out]
            show Hid (World.ownsRow _ _ _ _ _ (K ++ [(x, l1)]).length (flat (K ++ [(x, l1)])))
            rw [List.length_append, flat_append]
            exact ownsRow_setCell_below HV.out (by show w.heap.size + 1 + 1 < w1.heap.size; omega) _
      · have hltz : ¬ (k : Int) < (m : Int) := by omega
        have hv : OwnCats wr w1.heap.size v (turnK was now d cs) := by
          have := OW.out
          rw [List.take_of_length_le (by rw [HML.out]; omega), HMD.out] at this
          exact OwnCats.of_own this
        have hmd : (turnK was now d cs).length ≤ 8796093022208 := by
          rw [← HMD.out]; unfold mergeK; rw [List.length_map, HML.out]; exact hm
        generalize hM : turnK was now d cs = M at *
        have HM := hid hM
        clear hM
        obtain ⟨A2, n2, c2, rfl, hT2⟩ := OwnCats.at_ hv
        obtain ⟨⟨y0, y1⟩, y2, y3⟩ := label_zero XB.out
        have HT2 := hid hT2
        have HB3 : Hid (Below w.heap.size w wr) := BW.out.done HS2.out (fun k hk => by subst hk; omega) (by omega)
        clear hv hT2 OW
        go_wp2_with fail
        refine (form35 wr d A2 n2 c2 M HT2.out (by rw [← HT2.out.len]; exact hmd)).mono ?_
        rintro e w3 ⟨A3, n3, c3, rfl, hv3, hb3⟩
        have hk3 := K3.out.below hb3 K3.out.lt
        obtain ⟨⟨z0, z1⟩, z2, z3⟩ := label_zero hk3
        have HK3 := hid hk3
        have HV3 := hid hv3
        have HB4 := hid (HB3.out.trans (hb3.mono HB3.out.size))
        clear hk3 hv3 hb3
        go_wp2_with fail
        refine bodyPost_ret (label_run (label_put HK3.out _ _) rfl _ rfl) rfl ?_
        have hv4 := HV3.out
        rw [← HM.out] at hv4
        exact lab_own_end hv4 (by omega) K3.out.lt HB4.out
end Go.Proofs.Ytndohmimcbmhdaa
