/- The document's Form. -/
import Derived.Test.YtndohmimcbmhdaaCp
set_option linter.unusedVariables false
set_option linter.unusedSimpArgs false
namespace Go.Proofs.Ytndohmimcbmhdaa
open Go.RowKit Go.Sort

def formK (d : Int) (cs : List (Int × Int)) (ids : List Int) : List (Int × Int) := (ids.filter fun id => levelL d cs id ≠ d).map fun id => (id, levelL d cs id)
theorem formK_all (d : Int) (cs : List (Int × Int)) : formK d cs (idsL cs) = formL d cs := rfl
theorem formK_snoc (d : Int) (cs : List (Int × Int)) (ids : List Int) (k : Nat) (x : Int) (h : ids[k]? = some x) : formK d cs (ids.take (k + 1)) = formK d cs (ids.take k) ++ (if levelL d cs x ≠ d then [(x, levelL d cs x)] else []) := by
  unfold formK
  rw [List.take_add_one, h, List.filter_append, List.map_append]
  congr 1
  by_cases e : levelL d cs x = d <;> simp [e, List.filter]
theorem formK_len (d : Int) (cs : List (Int × Int)) (ids : List Int) (k : Nat) : (formK d cs (ids.take k)).length ≤ k := by
  unfold formK
  rw [List.length_map]
  exact Nat.le_trans (List.length_filter_le _ _) (by rw [List.length_take]; omega)
theorem blk_reads {W : World} {b : Nat} {t : TypeId} {x y : Value} (h : Blk W b t #[x, y]) : Reads W W.heap.size 2 (some ⟨b, 0, none⟩) 1 [x, y] := by
  refine ⟨rfl, fun _ => ⟨_, rfl, h.lt, fun j u hu => ?_⟩⟩
  match j, hu with
  | 0, hu => simp at hu; subst hu; exact (Blk.cell h 0).trans rfl
  | 1, hu => simp at hu; subst hu; exact (Blk.cell h 1).trans rfl
theorem But.past {D D' : Nat → Prop} {a b c : World} (h : But D a b) (k : But D' b c) (hD : ∀ g, D' g → D g ∨ a.heap.size ≤ g) : But D a c :=
  ⟨k.os.trans h.os, k.tape.trans h.tape, k.output.trans h.output, Nat.le_trans h.size k.size, fun i hi hn => (k.block i (Nat.lt_of_lt_of_le hi h.size) (fun hd => by
    rcases hD i hd with h1 | h1
    · exact hn h1
    · omega)).trans (h.block i hi hn)⟩
theorem own_shape {w : World} {B e size n : Nat} {v : Value} {xs : List Value} (h : w.ownsRow B e size v n xs) : ∃ A m c, v = .slice A m c := by
  rcases h.2 with ⟨rfl, _⟩ | ⟨g, cap, cur, rfl, _⟩
  · exact ⟨none, 0, 0, rfl⟩
  · exact ⟨_, n, cap, rfl⟩
def row1 (v : Value) : Nat → Prop := fun k => some k = v.ownBlock
theorem ownRow_own {B e size n : Nat} {xs : List Value} {D : Nat → Prop} {w : World} : (Leaves.own (fun W v => World.ownsRow W B e size v n xs)).stable D w :=
  fun _ _ _ _ hb h => World.ownsRow.kept (row := none) h (only_of_below (since_below hb (Nat.le_refl _)) none) (by cases Value.ownBlock _ <;> simp)

set_option maxHeartbeats 4000000 in
set_option maxRecDepth 100000 in
theorem form35 (w : World) (d : Int) (A : Option Addr) (n c : Nat) (cs : List (Int × Int)) (h : CatsAt w w.heap.size A n c cs) (hn : n ≤ 8796093022208) :
    Calls Try.prog 35 #[.agg #[.int .i64 d, .slice A n c]] w fun e w' => RetOwn d (formL d cs) w e w' := by
  have mixed : Try.prog.follows .mixedOrders = true := by kernel_rfl
  obtain ⟨i0, hi0, hz0, hz1, hz2⟩ := info_parts cat_info
  obtain ⟨q1, q2, q3, q4⟩ := three_blk w #[.int .i64 d, .slice A n c] #[.int .i64 0, .slice none 0 0] #[.int .i64 d, .slice none 0 0] 26 26 26
  have HB := hid q1
  have HP1 := hid q2
  have HP2 := hid q3
  have HP3 := hid q4
  have HC := hid (h.below q1)
  have HLN := hid h.len
  clear h q1 q2 q3 q4
  go_enter Try.func35, Try.ntmps35
  go_wp2_with fail
  generalize ((w.alloc (.cells #[.int .i64 d, .slice A n c] 26)).alloc (.cells #[.int .i64 0, .slice none 0 0] 26)).alloc (.cells #[.int .i64 d, .slice none 0 0] 26) = wa at *
  refine (ids100 wa d 0 A none n c 0 0 cs [] (HC.out.more HB.out.size) CatsAt.nil_ (by omega)).mono ?_
  rintro e w1 ⟨v0, rfl, ho, hb1⟩
  rw [List.append_nil] at ho
  have hil := idsL_len cs
  rw [HLN.out] at hil
  have HFK := hid (formK_all d cs)
  generalize idsL cs = ids at *
  obtain ⟨Ai, m, ci, rfl, hN⟩ := NumsAt.of_own ho
  have HN := hid hN
  have HML := hid hN.len
  have hm : m ≤ 8796093022208 := by have := hN.len; omega
  have HO := hid ho
  have HB1 := hid hb1
  have hs1 := HP3.out.lt
  have hs2 := hb1.size
  have HS2 := hid (HB.out.trans (hb1.mono HB.out.size))
  clear ho hN hb1 hil
  go_wp2_with fail
  go_loopw [14] (fun vi wr => ∃ (k : Nat) (v : Value), k ≤ m ∧ vi = .int .i64 k ∧ Hid (But (fun i => i = w.heap.size + 1 + 1) w1 wr) ∧ Hid (Blk wr (w.heap.size + 1 + 1) 26 #[.int .i64 d, v]) ∧ Hid (wr.ownsRow w1.heap.size 32 2 v (formK d cs (ids.take k)).length (flat (formK d cs (ids.take k))))) (fun vi _ => m - (intOf vi).toNat)
  case atStart => exact ⟨0, .slice none 0 0, Nat.zero_le _, rfl, But.refl _ _, HP3.out.below HB1.out hs1, World.ownsRow_nil _ _ _ _⟩
  case round =>
    obtain ⟨k, v, hk, rfl, BW, XB, OW⟩ := hrel
    have HCr : Hid (CatsAt wr w.heap.size A n c cs) := (HC.out.below (HB1.out.mono HB.out.size)).below (BW.out.done (Below.refl _ _) (fun k hk => by subst hk; omega) (by omega))
    have K1 : Blk wr w.heap.size 26 #[.int .i64 d, .slice A n c] := BW.out.blk (HP1.out.below HB1.out HP1.out.lt) (by omega)
    have K2 : Blk wr (w.heap.size + 1) 26 #[.int .i64 0, .slice none 0 0] := BW.out.blk (HP2.out.below HB1.out HP2.out.lt) (by omega)
    have hwr := BW.out.size
    by_cases hlt : k < m
    · have hltz : (k : Int) < (m : Int) := by omega
      have HNr : NumsAt wr wr.heap.size Ai m ci ids := by
        have hk := World.ownsRow.lt HO.out
        have := World.ownsRow.kept (row := some (w.heap.size + 1 + 1)) HO.out (w' := wr) ⟨BW.out.os, BW.out.tape, BW.out.output, BW.out.size, fun i hi hne => BW.out.block i hi (fun e => hne (by rw [e]))⟩ (.inr fun e => by have := (hk _ e).1; omega)
        obtain ⟨A', m', c', e, hN⟩ := NumsAt.of_own this
        injection e with e1 e2 e3
        subst e1 e2 e3
        exact hN
      obtain ⟨ad, x, rfl, had, hx, cx⟩ := HNr.at_ hlt
      have HSN := hid (formK_snoc d cs ids k x hx)
      have hkl := formK_len d cs ids k
      generalize formK d cs (ids.take k) = K at *
      have HK1 := hid K1
      have HK2 := hid K2
      have HF : Hid (∀ W, But nil_ wr W → W.cell? ⟨w.heap.size, 0, none⟩ = some (.int .i64 d) ∧ W.cell? ⟨w.heap.size, 1, none⟩ = some (.slice A n c)) := by
        intro W hW
        have r := hW.blk HK1.out (fun h => h)
        exact ⟨(Blk.cell r 0).trans rfl, (Blk.cell r 1).trans rfl⟩
      have HL : Hid (∀ W, But nil_ wr W → Calls Try.prog 38 #[.agg #[.int .i64 d, .slice A n c], .int .u64 x] W fun e w' => e = .returned (.int .i64 (levelL d cs x)) ∧ Below W.heap.size W w') := by
        intro W hW
        exact level38_b W d A n c cs x ((HCr.out.below (since_below hW (by omega))).more (by have := hW.size; omega))
      clear HNr hx K1 K2
      generalize hlv : levelL d cs x = lv at *
      have HLV := hid hlv
      clear hlv
      by_cases hq : lv = d
      · have hb : (lv != d) = false := by simpa using hq
        have HSN2 : Hid (formK d cs (ids.take (k + 1)) = K) := by
          show _ = _
          rw [HSN.out, if_neg (by simpa using hq), List.append_nil]
        clear hq
        go_wp2_with fail
        refine wp_region_told 6 nil_ mixed (by kernel_rfl) ?_
        simp only [List.take_succ_cons, List.take_zero, List.drop_succ_cons, List.drop_zero]
        repeat (refine told_val (v := ?_) (fun _ => rfl) (fun vs W hW => ?_) ?_; rotate_left; (focus (have hf := HF.out W hW; clear hW; go_simp; exact loose_val)); simp only [Act.put, List.setIfInBounds_toArray, List.set_cons_zero, List.set_cons_succ, List.nil_append, List.cons_append, Nat.reduceAdd, Leaves.at])
        refine told_val (v := .int .i64 lv) (fun _ => rfl) (fun vs W hW => ?_) ?_
        · go_simp
          exact loose_call (HL.out W hW)
        simp only [Act.put, List.setIfInBounds_toArray, List.set_cons_zero, List.set_cons_succ, List.nil_append, List.cons_append, Nat.reduceAdd, Leaves.at]
        repeat (refine told_val (v := ?_) (fun _ => rfl) (fun vs W hW => ?_) ?_; rotate_left; (focus (have hf := HF.out W hW; clear hW; go_simp; exact loose_val)); simp only [Act.put, List.setIfInBounds_toArray, List.set_cons_zero, List.set_cons_succ, List.nil_append, List.cons_append, Nat.reduceAdd, Leaves.at])
        refine told_nil ?_
        intro vs W hW hok hap
        clear hap
        dsimp only
        have HW := hid hW
        clear hok hW
        go_wp2_with fail
        go_roundw
        case measure => simp [intOf] <;> omega
        case rel => exact ⟨k + 1, v, by omega, by go_num, BW.out.trans (But.wide HW.out), HW.out.blk XB.out (fun h => h), by rw [HSN2.out]; exact World.ownsRow.kept (row := none) OW.out (only_of_below (since_below HW.out (Nat.le_refl _)) none) (by cases Value.ownBlock _ <;> simp)⟩
      · have hb : (lv != d) = true := by simpa using hq
        have HSN2 : Hid (formK d cs (ids.take (k + 1)) = K ++ [(x, lv)]) := by
          show _ = _
          rw [HSN.out, if_pos (by simpa using hq)]
        clear hq
        go_wp2_with fail
        refine wp_region_told 6 nil_ mixed (by kernel_rfl) ?_
        simp only [List.take_succ_cons, List.take_zero, List.drop_succ_cons, List.drop_zero]
        repeat (refine told_val (v := ?_) (fun _ => rfl) (fun vs W hW => ?_) ?_; rotate_left; (focus (have hf := HF.out W hW; clear hW; go_simp; exact loose_val)); simp only [Act.put, List.setIfInBounds_toArray, List.set_cons_zero, List.set_cons_succ, List.nil_append, List.cons_append, Nat.reduceAdd, Leaves.at])
        refine told_val (v := .int .i64 lv) (fun _ => rfl) (fun vs W hW => ?_) ?_
        · go_simp
          exact loose_call (HL.out W hW)
        simp only [Act.put, List.setIfInBounds_toArray, List.set_cons_zero, List.set_cons_succ, List.nil_append, List.cons_append, Nat.reduceAdd, Leaves.at]
        repeat (refine told_val (v := ?_) (fun _ => rfl) (fun vs W hW => ?_) ?_; rotate_left; (focus (have hf := HF.out W hW; clear hW; go_simp; exact loose_val)); simp only [Act.put, List.setIfInBounds_toArray, List.set_cons_zero, List.set_cons_succ, List.nil_append, List.cons_append, Nat.reduceAdd, Leaves.at])
        refine told_nil ?_
        intro vs W hW hok hap
        clear hap
        dsimp only
        have BW2 := hid (BW.out.trans (But.wide hW))
        have XB2 := hid (hW.blk XB.out (fun h => h))
        have OW2 : Hid (World.ownsRow W w1.heap.size 32 2 v K.length (flat K)) := World.ownsRow.kept (row := none) OW.out (only_of_below (since_below hW (Nat.le_refl _)) none) (by cases Value.ownBlock _ <;> simp)
        have HLT := hid (World.ownsRow.lt OW2.out)
        have hsW := BW2.out.size
        have HK1' := hid (hW.blk HK1.out (fun h => h))
        have HK2' := hid (hW.blk HK2.out (fun h => h))
        have HC2 : Hid (CatsAt W w.heap.size A n c cs) := HCr.out.below (since_below hW (by omega))
        have HL2 : Hid (∀ W', But (row1 v) W W' → Calls Try.prog 38 #[.agg #[.int .i64 d, .slice A n c], .int .u64 x] W' fun e w' => e = .returned (.int .i64 lv) ∧ Below W'.heap.size W' w') := by
          intro W' hW'
          rw [← HLV.out]
          have hb : Below w.heap.size W W' := hW'.done (Below.refl _ _) (fun k hk => by have := (HLT.out k hk.symm).1; omega) (by omega)
          exact level38_b W' d A n c cs x ((HC2.out.below hb).more (by have := hW'.size; omega))
        have HF2 : Hid (∀ W', But (row1 v) W W' → (W'.cell? ⟨w.heap.size, 0, none⟩ = some (.int .i64 d) ∧ W'.cell? ⟨w.heap.size, 1, none⟩ = some (.slice A n c)) ∧ W'.cell? ⟨w.heap.size + 1 + 1, 1, none⟩ = some v) := by
          intro W' hW'
          have r := hW'.blk HK1'.out (fun h => by have := (HLT.out _ h.symm).1; omega)
          have r2 := hW'.blk XB2.out (fun h => by have := (HLT.out _ h.symm).1; omega)
          exact ⟨⟨(Blk.cell r 0).trans rfl, (Blk.cell r 1).trans rfl⟩, (Blk.cell r2 1).trans rfl⟩
        clear hok hW
        go_wp2_with fail
        refine wp_region_told 10 (row1 v) mixed (by kernel_rfl) ?_
        simp only [List.take_succ_cons, List.take_zero, List.drop_succ_cons, List.drop_zero]
        repeat (refine told_val (v := ?_) (fun _ => rfl) (fun vs W hW => ?_) ?_; rotate_left; (focus (have hf := HF2.out W hW; clear hW; go_simp; exact loose_val)); simp only [Act.put, List.setIfInBounds_toArray, List.set_cons_zero, List.set_cons_succ, List.nil_append, List.cons_append, Nat.reduceAdd, Leaves.at])
        refine told_val (v := .int .i64 lv) (fun _ => rfl) (fun vs W hW => ?_) ?_
        · go_simp
          exact loose_call (HL2.out W hW)
        simp only [Act.put, List.setIfInBounds_toArray, List.set_cons_zero, List.set_cons_succ, List.nil_append, List.cons_append, Nat.reduceAdd, Leaves.at]
        repeat (refine told_val (v := ?_) (fun _ => rfl) (fun vs W hW => ?_) ?_; rotate_left; (focus (have hf := HF2.out W hW; clear hW; go_simp; exact loose_val)); simp only [Act.put, List.setIfInBounds_toArray, List.set_cons_zero, List.set_cons_succ, List.nil_append, List.cons_append, Nat.reduceAdd, Leaves.at])
        refine told_rel (NewSl W.heap.size 32 1 #[.int .u64 x, .int .i64 lv]) (NewSl.stable (fun k hk => (HLT.out k hk.symm).2)) (fun _ => rfl) (fun vs W' hW hd => ?_) ?_
        · go_simp
          exact loose_newSl hW.size
        simp only [Act.put, List.setIfInBounds_toArray, List.set_cons_zero, List.set_cons_succ, List.nil_append, List.cons_append, Nat.reduceAdd, Leaves.at]
        refine told_own (fun W' u => World.ownsRow W' w1.heap.size 32 2 u (K.length + 1) (flat K ++ [.int .u64 x, .int .i64 lv])) ownRow_own rfl (fun _ => rfl) (fun vs W' hW hd => ?_) ?_
        · obtain ⟨b, eb, hb, hk⟩ := hd ⟨7, .data⟩ (by simp) rfl _ rfl (fun _ => rfl)
          have ho : World.ownsRow W' w1.heap.size 32 2 v K.length (flat K) := World.ownsRow.kept (row := none) OW2.out (only_of_below (since_below hW (Nat.le_refl _)) none) (by cases Value.ownBlock _ <;> simp)
          refine loose_append W' (.tmp 25) (.tmp 31) 23 rfl w1.heap.size 32 i0 _ 2 16 Try.underlying23 hi0 hz0 hz1 hz2 rfl (by omega) v K.length (flat K) rfl ho W'.heap.size (some ⟨b, 0, none⟩) 1 1 [.int .u64 x, .int .i64 lv] eb (blk_reads hk) (by simp [Value.oneCell']) (by unfold maxLen; omega) (by omega) (Nat.le_trans hsW hW.size) ?_
          intro v' w' ho' hg _
          exact ⟨(But.refl _ W').grown hg (fun g e => .inl e.symm), ho', trivial⟩
        simp only [Act.put, List.setIfInBounds_toArray, List.set_cons_zero, List.set_cons_succ, List.nil_append, List.cons_append, Nat.reduceAdd, Leaves.at]
        repeat (refine told_val (v := ?_) (fun _ => rfl) (fun vs W hW => ?_) ?_; rotate_left; (focus (have hf := HF2.out W hW; clear hW; go_simp; exact loose_val)); simp only [Act.put, List.setIfInBounds_toArray, List.set_cons_zero, List.set_cons_succ, List.nil_append, List.cons_append, Nat.reduceAdd, Leaves.at])
        refine told_nil ?_
        intro vs W2 hW2 hok hap
        clear hap
        dsimp only
        have hv := hok 8 _ rfl rfl
        have BW3 : Hid (But (fun i => i = w.heap.size + 1 + 1) w1 W2) := BW2.out.past hW2 (fun g hg => .inr (HLT.out g hg.symm).1)
        have XB3 := hid (hW2.blk XB2.out (fun h => by have := (HLT.out _ h.symm).1; omega))
        obtain ⟨⟨z0, z1⟩, z2, z3⟩ := label_zero XB3.out
        have HV := hid hv
        clear hok hW2 hv
        generalize vs 8 = v2 at *
        obtain ⟨A2, n2, c2, rfl⟩ := own_shape HV.out
        go_wp2_with fail
        go_roundw
        case measure => simp [intOf] <;> omega
        case rel =>
          refine ⟨k + 1, _, by omega, by go_num, BW3.out.setCell (p := ⟨w.heap.size + 1 + 1, 1, none⟩) (.inl rfl) _, Blk.set_ XB3.out 1 _, ?_⟩
          rw [HSN2.out]
          show Hid (World.ownsRow _ _ _ _ _ (K ++ [(x, lv)]).length (flat (K ++ [(x, lv)])))
          rw [List.length_append, flat_append]
          exact ownsRow_setCell_below HV.out (by show w.heap.size + 1 + 1 < w1.heap.size; omega) _
    · have hltz : ¬ (k : Int) < (m : Int) := by omega
      have hv : OwnCats wr w1.heap.size v (formL d cs) := by
        have := OW.out
        rw [List.take_of_length_le (by rw [HML.out]; omega), HFK.out] at this
        exact OwnCats.of_own this
      obtain ⟨A2, n2, c2, rfl, hT2⟩ := OwnCats.at_ hv
      have HV := hid hv
      obtain ⟨⟨y0, y1⟩, y2, y3⟩ := label_zero XB.out
      obtain ⟨⟨z0, z1⟩, z2, z3⟩ := label_zero K2
      have HK2 := hid K2
      have HB3 : Hid (Below w.heap.size w wr) := BW.out.done HS2.out (fun k hk => by subst hk; omega) (by omega)
      clear hv hT2 K1 K2
      go_wp2_with fail
      refine bodyPost_ret (label_run (label_put HK2.out _ _) rfl _ rfl) rfl ?_
      exact lab_own_end HV.out (by omega) (by omega) HB3.out
end Go.Proofs.Ytndohmimcbmhdaa
