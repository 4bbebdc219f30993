/- The document's Merge. -/
import Derived.Test.YtndohmimcbmhdaaLq
set_option linter.unusedVariables false
set_option linter.unusedSimpArgs false
namespace Go.Proofs.Ytndohmimcbmhdaa
open Go.RowKit Go.Sort

def mergeK (f : Int → (Int × Int)) (ids : List Int) : List (Int × Int) := ids.map f
theorem mergeK_snoc (f : Int → (Int × Int)) (ids : List Int) (k : Nat) (x : Int) (h : ids[k]? = some x) : mergeK f (ids.take (k + 1)) = mergeK f (ids.take k) ++ [f x] := by
  unfold mergeK
  rw [List.take_add_one, h]
  simp
theorem NumsAt.but {D : Nat → Prop} {w wr : World} {B : Nat} {v : Value} {l : List Int} {A : Option Addr} {m c : Nat} (ho : w.ownsRow B 24 1 (.slice A m c) l.length (nums l)) (h : But D w wr) (hD : ∀ k, D k → k < B) (hl : l.length = m) : NumsAt wr wr.heap.size A m c l := by
  have hk := World.ownsRow.lt ho
  have ho2 : wr.ownsRow B 24 1 (.slice A m c) l.length (nums l) := by
    refine ⟨ho.1, ?_⟩
    rcases ho.2 with h1 | ⟨g, cap, cur, e, hb, hh, r⟩
    · exact .inl h1
    · refine .inr ⟨g, cap, cur, e, hb, ?_, r⟩
      have hg : g < w.heap.size := (Array.getElem?_eq_some_iff.1 hh).1
      exact (h.block g hg (fun hd => by have := hD g hd; omega)).trans hh
  obtain ⟨A', m', c', e, hN⟩ := NumsAt.of_own ho2
  injection e with e1 e2 e3
  subst e1 e2 e3
  exact hN

set_option maxHeartbeats 4000000 in
set_option maxRecDepth 100000 in
theorem merge45 (w : World) (d d' : Int) (A A' : Option Addr) (n c n' c' : Nat) (cs cs' : List (Int × Int)) (gr : Bool) (h : CatsAt w w.heap.size A n c cs) (h' : CatsAt w w.heap.size A' n' c' cs') (hn : n + n' ≤ 8796093022208) :
    Calls Try.prog 45 #[.agg #[.int .i64 d, .slice A n c], .agg #[.int .i64 d', .slice A' n' c'], .bool gr] w fun e w' => RetOwn (pickF gr d d') (formL (pickF gr d d') (mergeD (pickF gr) d cs d' cs')) w e w' := by
  have mixed : Try.prog.follows .mixedOrders = true := by kernel_rfl
  obtain ⟨i0, hi0, hz0, hz1, hz2⟩ := info_parts cat_info
  obtain ⟨dd, hdd⟩ : ∃ dd, pickF gr d d' = dd := ⟨_, rfl⟩
  have HPD := hid hdd
  clear hdd
  obtain ⟨q1, q2, q3, q4, q5, q6⟩ := four_blk w #[.int .i64 d, .slice A n c] #[.int .i64 d', .slice A' n' c'] #[.int .i64 0, .slice none 0 0] #[.int .i64 dd, .slice none 0 0] 26 26 26 26
  have HB := hid q1
  have HP1 := hid q2
  have HP2 := hid q3
  have HP3 := hid q4
  have HP4 := hid q5
  have HC := hid (h.below q1)
  have HC' := hid (h'.below q1)
  have HMD : Hid (mergeK (fun id => (id, pickF gr (levelL d cs id) (levelL d' cs' id))) (idsL (cs ++ cs')) = mergeD (pickF gr) d cs d' cs') := rfl
  have hil := idsL_len (cs ++ cs')
  rw [List.length_append, h.len, h'.len] at hil
  rw [HPD.out]
  clear h h' q1 q2 q3 q4 q5 q6
  go_enter Try.func45, Try.ntmps45
  go_wp2_with (go_at_call 106; refine (pick106 _ _ _ _).mono ?_; rintro e w' ⟨rfl, rfl⟩; rw [HPD.out])
  generalize (((w.alloc (.cells #[.int .i64 d, .slice A n c] 26)).alloc (.cells #[.int .i64 d', .slice A' n' c'] 26)).alloc (.cells #[.int .i64 0, .slice none 0 0] 26)).alloc (.cells #[.int .i64 dd, .slice none 0 0] 26) = wa at *
  refine (ids100 wa d d' A A' n c n' c' cs cs' (HC.out.more HB.out.size) (HC'.out.more HB.out.size) (by omega)).mono ?_
  rintro e w1 ⟨v0, rfl, ho, hb1⟩
  generalize idsL (cs ++ cs') = ids at *
  obtain ⟨Ai, m, ci, rfl, hN⟩ := NumsAt.of_own ho
  have HML := hid hN.len
  have hm : m ≤ 8796093022208 := by have := hN.len; omega
  have HO := hid ho
  have HB1 := hid hb1
  have hs1 := HP4.out.lt
  have hs2 := hb1.size
  have hsa := HB.out.size
  have HS2 := hid (HB.out.trans (hb1.mono hsa))
  clear ho hN hb1 hil
  obtain ⟨ff, hff⟩ : ∃ ff : Int → (Int × Int), ff = (fun id => (id, pickF gr (levelL d cs id) (levelL d' cs' id))) := ⟨_, rfl⟩
  rw [← hff] at HMD
  have HFF := hid hff
  clear hff
  go_wp2_with fail
  go_loopw [22] (fun vi wr => ∃ (k : Nat) (v : Value), k ≤ m ∧ vi = .int .i64 k ∧ Hid (But (fun i => i = w.heap.size + 1 + 1 + 1) w1 wr) ∧ Hid (Blk wr (w.heap.size + 1 + 1 + 1) 26 #[.int .i64 dd, v]) ∧ Hid (wr.ownsRow w1.heap.size 32 2 v (mergeK ff (ids.take k)).length (flat (mergeK ff (ids.take k))))) (fun vi _ => m - (intOf vi).toNat)
  case atStart => exact ⟨0, .slice none 0 0, Nat.zero_le _, rfl, But.refl _ _, HP4.out.below HB1.out hs1, World.ownsRow_nil _ _ _ _⟩
  case round =>
    obtain ⟨k, v, hk, rfl, BW, XB, OW⟩ := hrel
    have hbr : Below w.heap.size w1 wr := BW.out.done (Below.refl _ _) (fun k hk => by subst hk; omega) (by omega)
    have HCr : Hid (CatsAt wr w.heap.size A n c cs) := (HC.out.below (HB1.out.mono hsa)).below hbr
    have HCr' : Hid (CatsAt wr w.heap.size A' n' c' cs') := (HC'.out.below (HB1.out.mono hsa)).below hbr
    have K1 := hid (BW.out.blk (HP1.out.below HB1.out HP1.out.lt) (by omega))
    have K2 := hid (BW.out.blk (HP2.out.below HB1.out HP2.out.lt) (by omega))
    have K3 := hid (BW.out.blk (HP3.out.below HB1.out HP3.out.lt) (by omega))
    have hwr := BW.out.size
    clear hbr
    by_cases hlt : k < m
    · have hltz : (k : Int) < (m : Int) := by omega
      obtain ⟨ad, x, rfl, had, hx, cx⟩ := (NumsAt.but (v := v) HO.out BW.out (fun k hk => by subst hk; omega) HML.out).at_ hlt
      have HSN := hid (mergeK_snoc ff ids k x hx)
      have hkl : (mergeK ff (ids.take k)).length ≤ k := by unfold mergeK; rw [List.length_map, List.length_take]; omega
      have HFX : Hid (ff x = (x, pickF gr (levelL d cs x) (levelL d' cs' x))) := by show _ = _; rw [HFF.out]
      generalize mergeK ff (ids.take k) = K at *
      have HLT := hid (World.ownsRow.lt OW.out)
      have hB2 : ∀ W, But (row1 v) wr W → Below w.heap.size wr W := fun W hW => hW.done (Below.refl _ _) (fun k hk => by have := (HLT.out k hk.symm).1; omega) (by omega)
      have HL1 : Hid (∀ W, But (row1 v) wr W → Calls Try.prog 38 #[.agg #[.int .i64 d, .slice A n c], .int .u64 x] W fun e w' => e = .returned (.int .i64 (levelL d cs x)) ∧ Below W.heap.size W w') := by
        intro W hW
        exact level38_b W d A n c cs x ((HCr.out.below (hB2 W hW)).more (by have := hW.size; omega))
      have HL2 : Hid (∀ W, But (row1 v) wr W → Calls Try.prog 38 #[.agg #[.int .i64 d', .slice A' n' c'], .int .u64 x] W fun e w' => e = .returned (.int .i64 (levelL d' cs' x)) ∧ Below W.heap.size W w') := by
        intro W hW
        exact level38_b W d' A' n' c' cs' x ((HCr'.out.below (hB2 W hW)).more (by have := hW.size; omega))
      have HF : Hid (∀ W, But (row1 v) wr W → ((W.cell? ⟨w.heap.size, 0, none⟩ = some (.int .i64 d) ∧ W.cell? ⟨w.heap.size, 1, none⟩ = some (.slice A n c)) ∧ (W.cell? ⟨w.heap.size + 1, 0, none⟩ = some (.int .i64 d') ∧ W.cell? ⟨w.heap.size + 1, 1, none⟩ = some (.slice A' n' c'))) ∧ W.cell? ⟨w.heap.size + 1 + 1 + 1, 1, none⟩ = some v) := by
        intro W hW
        have r := hW.blk K1.out (fun h => by have := (HLT.out _ h.symm).1; omega)
        have r2 := hW.blk K2.out (fun h => by have := (HLT.out _ h.symm).1; omega)
        have r3 := hW.blk XB.out (fun h => by have := (HLT.out _ h.symm).1; omega)
        exact ⟨⟨⟨(Blk.cell r 0).trans rfl, (Blk.cell r 1).trans rfl⟩, (Blk.cell r2 0).trans rfl, (Blk.cell r2 1).trans rfl⟩, (Blk.cell r3 1).trans rfl⟩
      generalize levelL d cs x = l1 at *
      generalize levelL d' cs' x = l2 at *
      obtain ⟨lv, hlv⟩ : ∃ lv, pickF gr l1 l2 = lv := ⟨_, rfl⟩
      rw [hlv] at HFX
      have HPK : Hid (∀ W, Calls Try.prog 106 #[.int .i64 l1, .int .i64 l2, .bool gr] W fun e w' => e = .returned (.int .i64 lv) ∧ W = w') := by
        intro W
        rw [← hlv]
        exact pick106 W l1 l2 gr
      clear hlv hB2 hx
      go_wp2_with fail
      refine wp_region_told 15 (row1 v) mixed (by kernel_rfl) ?_
      simp only [List.take_succ_cons, List.take_zero, List.drop_succ_cons, List.drop_zero]
      repeat (refine told_val (v := ?_) (fun _ => rfl) (fun vs W hW => ?_) ?_; rotate_left; (focus (have hf := HF.out W hW; clear hW; go_simp; exact loose_val)); simp only [Act.put, List.setIfInBounds_toArray, List.set_cons_zero, List.set_cons_succ, List.nil_append, List.cons_append, Nat.reduceAdd, Leaves.at])
      refine told_val (v := .int .i64 l1) (fun _ => rfl) (fun vs W hW => ?_) ?_
      · go_simp
        exact loose_call (HL1.out W hW)
      simp only [Act.put, List.setIfInBounds_toArray, List.set_cons_zero, List.set_cons_succ, List.nil_append, List.cons_append, Nat.reduceAdd, Leaves.at]
      repeat (refine told_val (v := ?_) (fun _ => rfl) (fun vs W hW => ?_) ?_; rotate_left; (focus (have hf := HF.out W hW; clear hW; go_simp; exact loose_val)); simp only [Act.put, List.setIfInBounds_toArray, List.set_cons_zero, List.set_cons_succ, List.nil_append, List.cons_append, Nat.reduceAdd, Leaves.at])
      refine told_val (v := .int .i64 l2) (fun _ => rfl) (fun vs W hW => ?_) ?_
      · go_simp
        exact loose_call (HL2.out W hW)
      simp only [Act.put, List.setIfInBounds_toArray, List.set_cons_zero, List.set_cons_succ, List.nil_append, List.cons_append, Nat.reduceAdd, Leaves.at]
      repeat (refine told_val (v := ?_) (fun _ => rfl) (fun vs W hW => ?_) ?_; rotate_left; (focus (have hf := HF.out W hW; clear hW; go_simp; exact loose_val)); simp only [Act.put, List.setIfInBounds_toArray, List.set_cons_zero, List.set_cons_succ, List.nil_append, List.cons_append, Nat.reduceAdd, Leaves.at])
      refine told_val (v := .int .i64 lv) (fun _ => rfl) (fun vs W hW => ?_) ?_
      · go_simp
        exact loose_same (HPK.out W)
      simp only [Act.put, List.setIfInBounds_toArray, List.set_cons_zero, List.set_cons_succ, List.nil_append, List.cons_append, Nat.reduceAdd, Leaves.at]
      repeat (refine told_val (v := ?_) (fun _ => rfl) (fun vs W hW => ?_) ?_; rotate_left; (focus (have hf := HF.out W hW; clear hW; go_simp; exact loose_val)); simp only [Act.put, List.setIfInBounds_toArray, List.set_cons_zero, List.set_cons_succ, List.nil_append, List.cons_append, Nat.reduceAdd, Leaves.at])
      refine told_rel (NewSl wr.heap.size 32 1 #[.int .u64 x, .int .i64 lv]) (NewSl.stable (fun k hk => (HLT.out k hk.symm).2)) (fun _ => rfl) (fun vs W' hW hd => ?_) ?_
      · go_simp
        exact loose_newSl hW.size
      simp only [Act.put, List.setIfInBounds_toArray, List.set_cons_zero, List.set_cons_succ, List.nil_append, List.cons_append, Nat.reduceAdd, Leaves.at]
      refine told_own (fun W' u => World.ownsRow W' w1.heap.size 32 2 u (K.length + 1) (flat K ++ [.int .u64 x, .int .i64 lv])) ownRow_own rfl (fun _ => rfl) (fun vs W' hW hd => ?_) ?_
      · obtain ⟨b, eb, hb, hk⟩ := hd ⟨12, .data⟩ (by simp) rfl _ rfl (fun _ => rfl)
        have ho : World.ownsRow W' w1.heap.size 32 2 v K.length (flat K) := World.ownsRow.kept (row := none) OW.out (only_of_below (since_below hW (Nat.le_refl _)) none) (by cases Value.ownBlock _ <;> simp)
        refine loose_append W' (.tmp 27) (.tmp 38) 23 rfl w1.heap.size 32 i0 _ 2 16 Try.underlying23 hi0 hz0 hz1 hz2 rfl (by omega) v K.length (flat K) rfl ho W'.heap.size (some ⟨b, 0, none⟩) 1 1 [.int .u64 x, .int .i64 lv] eb (blk_reads hk) (by simp [Value.oneCell']) (by unfold maxLen; omega) (by omega) (Nat.le_trans hwr hW.size) ?_
        intro v' w' ho' hg _
        exact ⟨(But.refl _ W').grown hg (fun g e => .inl e.symm), ho', trivial⟩
      simp only [Act.put, List.setIfInBounds_toArray, List.set_cons_zero, List.set_cons_succ, List.nil_append, List.cons_append, Nat.reduceAdd, Leaves.at]
      repeat (refine told_val (v := ?_) (fun _ => rfl) (fun vs W hW => ?_) ?_; rotate_left; (focus (have hf := HF.out W hW; clear hW; go_simp; exact loose_val)); simp only [Act.put, List.setIfInBounds_toArray, List.set_cons_zero, List.set_cons_succ, List.nil_append, List.cons_append, Nat.reduceAdd, Leaves.at])
      refine told_nil ?_
      intro vs W2 hW2 hok hap
      clear hap
      dsimp only
      have hv := hok 13 _ rfl rfl
      have BW3 : Hid (But (fun i => i = w.heap.size + 1 + 1 + 1) w1 W2) := BW.out.past hW2 (fun g hg => .inr (HLT.out g hg.symm).1)
      have XB3 := hid (hW2.blk XB.out (fun h => by have := (HLT.out _ h.symm).1; omega))
      obtain ⟨⟨z0, z1⟩, z2, z3⟩ := label_zero XB3.out
      have HV := hid hv
      clear hok hW2 hv
      generalize vs 13 = v2 at *
      obtain ⟨A2, n2, c2, rfl⟩ := own_shape HV.out
      go_wp2_with fail
      go_roundw
      case measure => simp [intOf] <;> omega
      case rel =>
        refine ⟨k + 1, _, by omega, by go_num, BW3.out.setCell (p := ⟨w.heap.size + 1 + 1 + 1, 1, none⟩) (.inl rfl) _, Blk.set_ XB3.out 1 _, ?_⟩
        rw [HSN.out, HFX.out]
        show Hid (World.ownsRow _ _ _ _ _ (K ++ [(x, lv)]).length (flat (K ++ [(x, lv)])))
        rw [List.length_append, flat_append]
        exact ownsRow_setCell_below HV.out (by show w.heap.size + 1 + 1 + 1 < w1.heap.size; omega) _
    · have hltz : ¬ (k : Int) < (m : Int) := by omega
      have hv : OwnCats wr w1.heap.size v (mergeD (pickF gr) d cs d' cs') := by
        have := OW.out
        rw [List.take_of_length_le (by rw [HML.out]; omega), HMD.out] at this
        exact OwnCats.of_own this
      have hmd : (mergeD (pickF gr) d cs d' cs').length ≤ 8796093022208 := by
        rw [← HMD.out]; unfold mergeK; rw [List.length_map, HML.out]; exact hm
      generalize hM : mergeD (pickF gr) d cs d' cs' = M at *
      have HM := hid hM
      clear hM
      obtain ⟨A2, n2, c2, rfl, hT2⟩ := OwnCats.at_ hv
      obtain ⟨⟨y0, y1⟩, y2, y3⟩ := label_zero XB.out
      have HT2 := hid hT2
      have HB3 : Hid (Below w.heap.size w wr) := BW.out.done HS2.out (fun k hk => by subst hk; omega) (by omega)
      clear hv hT2 OW
      go_wp2_with fail
      refine (form35 wr dd A2 n2 c2 M HT2.out (by rw [← HT2.out.len]; exact hmd)).mono ?_
      rintro e w3 ⟨A3, n3, c3, rfl, hv3, hb3⟩
      have hk3 := K3.out.below hb3 K3.out.lt
      obtain ⟨⟨z0, z1⟩, z2, z3⟩ := label_zero hk3
      have HK3 := hid hk3
      have HV3 := hid hv3
      have HB4 := hid (HB3.out.trans (hb3.mono HB3.out.size))
      clear hk3 hv3 hb3
      go_wp2_with fail
      refine bodyPost_ret (label_run (label_put HK3.out _ _) rfl _ rfl) rfl ?_
      have hv4 := HV3.out
      rw [← HM.out] at hv4
      exact lab_own_end hv4 (by omega) K3.out.lt HB4.out
end Go.Proofs.Ytndohmimcbmhdaa
