/- The document's Form. -/
import Derived.Test.YtndohmimcbmhdaaMz14
set_option linter.unusedVariables false
set_option linter.unusedSimpArgs false
namespace Go.Proofs.Ytndohmimcbmhdaa
open Go.RowKit Go.Sort

def formK (d : Int) (cs : List (Int × Int)) (ids : List Int) : List (Int × Int) := (ids.filter fun id => levelL d cs id ≠ d).map fun id => (id, levelL d cs id)
theorem formK_all (d : Int) (cs : List (Int × Int)) : formK d cs (idsL cs) = formL d cs := rfl
theorem formK_snoc (d : Int) (cs : List (Int × Int)) (ids : List Int) (k : Nat) (x : Int) (h : ids[k]? = some x) : formK d cs (ids.take (k + 1)) = formK d cs (ids.take k) ++ (if levelL d cs x ≠ d then [(x, levelL d cs x)] else []) := by
  unfold formK
  rw [List.take_add_one, h, List.filter_append, List.map_append]
  congr 1
  by_cases e : levelL d cs x = d <;> simp [e, List.filter]
theorem formK_len (d : Int) (cs : List (Int × Int)) (ids : List Int) (k : Nat) : (formK d cs (ids.take k)).length ≤ k := by
  unfold formK
  rw [List.length_map]
  exact Nat.le_trans (List.length_filter_le _ _) (by rw [List.length_take]; omega)
theorem blk_reads {W : World} {b : Nat} {t : TypeId} {x y : Value} (h : Blk W b t #[x, y]) : Reads W W.heap.size 2 (some ⟨b, 0, none⟩) 1 [x, y] := by
  refine ⟨rfl, fun _ => ⟨_, rfl, h.lt, fun j u hu => ?_⟩⟩
  match j, hu with
  | 0, hu => simp at hu; subst hu; exact (Blk.cell h 0).trans rfl
  | 1, hu => simp at hu; subst hu; exact (Blk.cell h 1).trans rfl
theorem But.past {D D' : Nat → Prop} {a b c : World} (h : But D a b) (k : But D' b c) (hD : ∀ g, D' g → D g ∨ a.heap.size ≤ g) : But D a c :=
  ⟨k.os.trans h.os, k.tape.trans h.tape, k.output.trans h.output, Nat.le_trans h.size k.size, fun i hi hn => (k.block i (Nat.lt_of_lt_of_le hi h.size) (fun hd => by
    rcases hD i hd with h1 | h1
    · exact hn h1
    · omega)).trans (h.block i hi hn)⟩
theorem own_shape {w : World} {B e size n : Nat} {v : Value} {xs : List Value} (h : w.ownsRow B e size v n xs) : ∃ A m c, v = .slice A m c := by
  rcases h.2 with ⟨rfl, _⟩ | ⟨g, cap, cur, rfl, _⟩
  · exact ⟨none, 0, 0, rfl⟩
  · exact ⟨_, n, cap, rfl⟩
def row1 (v : Value) : Nat → Prop := fun k => some k = v.ownBlock
theorem ownRow_own {B e size n : Nat} {xs : List Value} {D : Nat → Prop} {w : World} : (Leaves.own (fun W v => World.ownsRow W B e size v n xs)).stable D w :=
  fun _ _ _ _ hb h => World.ownsRow.kept (row := none) h (only_of_below (since_below hb (Nat.le_refl _)) none) (by cases Value.ownBlock _ <;> simp)

set_option maxHeartbeats 4000000 in
set_option maxRecDepth 100000 in
theorem form35 (w : World) (d : Int) (A : Option Addr) (n c : Nat) (cs : List (Int × Int)) (h : CatsAt w w.heap.size A n c cs) (hn : n ≤ 8796093022208) :
    Calls Try.prog 35 #[.agg #[.int .i64 d, .slice A n c]] w fun e w' => RetOwn d (formL d cs) w e w' := by
  have mixed : Try.prog.follows .mixedOrders = true := by kernel_rfl
  obtain ⟨i0, hi0, hz0, hz1, hz2⟩ := info_parts cat_info
  obtain ⟨q1, q2, q3, q4⟩ := three_blk w #[.int .i64 d, .slice A n c] #[.int .i64 0, .slice none 0 0] #[.int .i64 d, .slice none 0 0] 26 26 26
  have HB := hid q1
  have HP1 := hid q2
  have HP2 := hid q3
  have HP3 := hid q4
  have HC := hid (h.below q1)
  have HLN := hid h.len
  clear h q1 q2 q3 q4
  go_enter Try.func35, Try.ntmps35
  go_wp2_with fail
  generalize ((w.alloc (.cells #[.int .i64 d, .slice A n c] 26)).alloc (.cells #[.int .i64 0, .slice none 0 0] 26)).alloc (.cells #[.int .i64 d, .slice none 0 0] 26) = wa at *
  refine (ids100 wa d 0 A none n c 0 0 cs [] (HC.out.more HB.out.size) CatsAt.nil_ (by omega)).mono ?_
  rintro e w1 ⟨v0, rfl, ho, hb1⟩
  rw [List.append_nil] at ho
  have hil := idsL_len cs
  rw [HLN.out] at hil
  have HFK := hid (formK_all d cs)
  generalize idsL cs = ids at *
  obtain ⟨Ai, m, ci, rfl, hN⟩ := NumsAt.of_own ho
  have HN := hid hN
  have HML := hid hN.len
  have hm : m ≤ 8796093022208 := by have := hN.len; omega
  have HO := hid ho
  have HB1 := hid hb1
  have hs1 := HP3.out.lt
  have hs2 := hb1.size
  have HS2 := hid (HB.out.trans (hb1.mono HB.out.size))
  clear ho hN hb1 hil
  go_wp2_with fail
  go_loopw [14] (fun vi wr => ∃ (k : Nat) (v : Value), k ≤ m ∧ vi = .int .i64 k ∧ Hid (But (fun i => i = w.heap.size + 1 + 1) w1 wr) ∧ Hid (Blk wr (w.heap.size + 1 + 1) 26 #[.int .i64 d, v]) ∧ Hid (wr.ownsRow w1.heap.size 32 2 v (formK d cs (ids.take k)).length (flat (formK d cs (ids.take k))))) (fun vi _ => m - (intOf vi).toNat)
  case atStart => exact ⟨0, .slice none 0 0, Nat.zero_le _, rfl, But.refl _ _, HP3.out.below HB1.out hs1, World.ownsRow_nil _ _ _ _⟩
  case round =>
    obtain ⟨k, v, hk, rfl, BW, XB, OW⟩ := hrel
    have HCr : Hid (CatsAt wr w.heap.size A n c cs) := (HC.out.below (HB1.out.mono HB.out.size)).below (BW.out.done (Below.refl _ _) (fun k hk => by subst hk; omega) (by omega))
    have K1 : Blk wr w.heap.size 26 #[.int .i64 d, .slice A n c] := BW.out.blk (HP1.out.below HB1.out HP1.out.lt) (by omega)
    have K2 : Blk wr (w.heap.size + 1) 26 #[.int .i64 0, .slice none 0 0] := BW.out.blk (HP2.out.below HB1.out HP2.out.lt) (by omega)
    have hwr := BW.out.size
    by_cases hlt : k < m
    · have hltz : (k : Int) < (m : Int) := by omega
      have HNr : NumsAt wr wr.heap.size Ai m ci ids := by
        have hk := World.ownsRow.lt HO.out
        have := World.ownsRow.kept (row := some (w.heap.size + 1 + 1)) HO.out (w' := wr) ⟨BW.out.os, BW.out.tape, BW.out.output, BW.out.size, fun i hi hne => BW.out.block i hi (fun e => hne (by rw [e]))⟩ (.inr fun e => by have := (hk _ e).1; omega)
        obtain ⟨A', m', c', e, hN⟩ := NumsAt.of_own this
        injection e with e1 e2 e3
        subst e1 e2 e3
        exact hN
      obtain ⟨ad, x, rfl, had, hx, cx⟩ := HNr.at_ hlt
      have HSN := hid (formK_snoc d cs ids k x hx)
      have hkl := formK_len d cs ids k
      generalize formK d cs (ids.take k) = K at *
      have HK1 := hid K1
      have HK2 := hid K2
      have HF : Hid (∀ W, But nil_ wr W → W.cell? ⟨w.heap.size, 0, none⟩ = some (.int .i64 d) ∧ W.cell? ⟨w.heap.size, 1, none⟩ = some (.slice A n c)) := by
        intro W hW
        have r := hW.blk HK1.out (fun h => h)
        exact ⟨(Blk.cell r 0).trans rfl, (Blk.cell r 1).trans rfl⟩
      have HL : Hid (∀ W, But nil_ wr W → Calls Try.prog 38 #[.agg #[.int .i64 d, .slice A n c], .int .u64 x] W fun e w' => e = .returned (.int .i64 (levelL d cs x)) ∧ Below W.heap.size W w') := by
        intro W hW
        exact level38_b W d A n c cs x ((HCr.out.below (since_below hW (by omega))).more (by have := hW.size; omega))
      clear HNr hx K1 K2
      generalize hlv : levelL d cs x = lv at *
      have HLV := hid hlv
      clear hlv
      by_cases hq : lv = d
      · have hb : (lv != d) = false := by simpa using hq
        have HSN2 : Hid (formK d cs (ids.take (k + 1)) = K) := by
          show _ = _
          rw [HSN.out, if_neg (by simpa using hq), List.append_nil]
        clear hq
        go_wp2_with fail
        refine wp_region_told 6 nil_ mixed (by kernel_rfl) ?_
        simp only [List.take_succ_cons, List.take_zero, List.drop_succ_cons, List.drop_zero]
        repeat (refine told_val (v := ?_) (fun _ => rfl) (fun vs W hW => ?_) ?_; rotate_left; (focus (have hf := HF.out W hW; clear hW; go_simp; exact loose_val)); simp only [Act.put, List.setIfInBounds_toArray, List.set_cons_zero, List.set_cons_succ, List.nil_append, List.cons_append, Nat.reduceAdd, Leaves.at])
        refine told_val (v := .int .i64 lv) (fun _ => rfl) (fun vs W hW => ?_) ?_
        · go_simp
          exact loose_call (HL.out W hW)
        simp only [Act.put, List.setIfInBounds_toArray, List.set_cons_zero, List.set_cons_succ, List.nil_append, List.cons_append, Nat.reduceAdd, Leaves.at]
        repeat (refine told_val (v := ?_) (fun _ => rfl) (fun vs W hW => ?_) ?_; rotate_left; (focus (have hf := HF.out W hW; clear hW; go_simp; exact loose_val)); simp only [Act.put, List.setIfInBounds_toArray, List.set_cons_zero, List.set_cons_succ, List.nil_append, List.cons_append, Nat.reduceAdd, Leaves.at])
        refine told_nil ?_
        intro vs W hW hok hap
        clear hap
        dsimp only
        have HW := hid hW
        clear hok hW
        go_wp2_with fail
        go_roundw
        case measure => simp [intOf] <;> omega
        case rel => exact ⟨k + 1, v, by omega, by go_num, BW.out.trans (But.wide HW.out), HW.out.blk XB.out (fun h => h), by rw [HSN2.out]; exact World.ownsRow.kept (row := none) OW.out (only_of_below (since_below HW.out (Nat.le_refl _)) none) (by cases Value.ownBlock _ <;> simp)⟩
      · have hb : (lv != d) = true := by simpa using hq
        have HSN2 : Hid (formK d cs (ids.take (k + 1)) = K ++ [(x, lv)]) := by
          show _ = _
          rw [HSN.out, if_pos (by simpa using hq)]
        clear hq
        go_wp2_with fail
        refine wp_region_told 6 nil_ mixed (by kernel_rfl) ?_
        simp only [List.take_succ_cons, List.take_zero, List.drop_succ_cons, List.drop_zero]
        repeat (refine told_val (v := ?_) (fun _ => rfl) (fun vs W hW => ?_) ?_; rotate_left; (focus (have hf := HF.out W hW; clear hW; go_simp; exact loose_val)); simp only [Act.put, List.setIfInBounds_toArray, List.set_cons_zero, List.set_cons_succ, List.nil_append, List.cons_append, Nat.reduceAdd, Leaves.at])
        refine told_val (v := .int .i64 lv) (fun _ => rfl) (fun vs W hW => ?_) ?_
        · go_simp
          exact loose_call (HL.out W hW)
        simp only [Act.put, List.setIfInBounds_toArray, List.set_cons_zero, List.set_cons_succ, List.nil_append, List.cons_append, Nat.reduceAdd, Leaves.at]
        repeat (refine told_val (v := ?_) (fun _ => rfl) (fun vs W hW => ?_) ?_; rotate_left; (focus (have hf := HF.out W hW; clear hW; go_simp; exact loose_val)); simp only [Act.put, List.setIfInBounds_toArray, List.set_cons_zero, List.set_cons_succ, List.nil_append, List.cons_append, Nat.reduceAdd, Leaves.at])
        refine told_nil ?_
        intro vs W hW hok hap
        clear hap
        dsimp only
        have BW2 := hid (BW.out.trans (But.wide hW))
        have XB2 := hid (hW.blk XB.out (fun h => h))
        have OW2 : Hid (World.ownsRow W w1.heap.size 32 2 v K.length (flat K)) := World.ownsRow.kept (row := none) OW.out (only_of_below (since_below hW (Nat.le_refl _)) none) (by cases Value.ownBlock _ <;> simp)
        have HLT := hid (World.ownsRow.lt OW2.out)
        have hsW := BW2.out.size
        have HK1' := hid (hW.blk HK1.out (fun h => h))
        have HK2' := hid (hW.blk HK2.out (fun h => h))
        have HC2 : Hid (CatsAt W w.heap.size A n c cs) := HCr.out.below (since_below hW (by omega))
        have HL2 : Hid (∀ W', But (row1 v) W W' → Calls Try.prog 38 #[.agg #[.int .i64 d, .slice A n c], .int .u64 x] W' fun e w' => e = .returned (.int .i64 lv) ∧ Below W'.heap.size W' w') := by
          intro W' hW'
          rw [← HLV.out]
          have hb : Below w.heap.size W W' := hW'.done (Below.refl _ _) (fun k hk => by have := (HLT.out k hk.symm).1; omega) (by omega)
          exact level38_b W' d A n c cs x ((HC2.out.below hb).more (by have := hW'.size; omega))
        have HF2 : Hid (∀ W', But (row1 v) W W' → (W'.cell? ⟨w.heap.size, 0, none⟩ = some (.int .i64 d) ∧ W'.cell? ⟨w.heap.size, 1, none⟩ = some (.slice A n c)) ∧ W'.cell? ⟨w.heap.size + 1 + 1, 1, none⟩ = some v) := by
          intro W' hW'
          have r := hW'.blk HK1'.out (fun h => by have := (HLT.out _ h.symm).1; omega)
          have r2 := hW'.blk XB2.out (fun h => by have := (HLT.out _ h.symm).1; omega)
          exact ⟨⟨(Blk.cell r 0).trans rfl, (Blk.cell r 1).trans rfl⟩, (Blk.cell r2 1).trans rfl⟩
        clear hok hW
        go_wp2_with fail
        refine wp_region_told 10 (row1 v) mixed (by kernel_rfl) ?_
        simp only [List.take_succ_cons, List.take_zero, List.drop_succ_cons, List.drop_zero]
        repeat (refine told_val (v := ?_) (fun _ => rfl) (fun vs W hW => ?_) ?_; rotate_left; (focus (have hf := HF2.out W hW; clear hW; go_simp; exact loose_val)); simp only [Act.put, List.setIfInBounds_toArray, List.set_cons_zero, List.set_cons_succ, List.nil_append, List.cons_append, Nat.reduceAdd, Leaves.at])
        refine told_val (v := .int .i64 lv) (fun _ => rfl) (fun vs W hW => ?_) ?_
        · go_simp
          exact loose_call (HL2.out W hW)
        simp only [Act.put, List.setIfInBounds_toArray, List.set_cons_zero, List.set_cons_succ, List.nil_append, List.cons_append, Nat.reduceAdd, Leaves.at]
        repeat (refine told_val (v := ?_) (fun _ => rfl) (fun vs W hW => ?_) ?_; rotate_left; (focus (have hf := HF2.out W hW; clear hW; go_simp; exact loose_val)); simp only [Act.put, List.setIfInBounds_toArray, List.set_cons_zero, List.set_cons_succ, List.nil_append, List.cons_append, Nat.reduceAdd, Leaves.at])
        refine told_rel (NewSl W.heap.size 32 1 #[.int .u64 x, .int .i64 lv]) (NewSl.stable (fun k hk => (HLT.out k hk.symm).2)) (fun _ => rfl) (fun vs W' hW hd => ?_) ?_
        · go_simp
          exact loose_newSl hW.size
        simp only [Act.put, List.setIfInBounds_toArray, List.set_cons_zero, List.set_cons_succ, List.nil_append, List.cons_append, Nat.reduceAdd, Leaves.at]
        refine told_own (fun W' u => World.ownsRow W' w1.heap.size 32 2 u (K.length + 1) (flat K ++ [.int .u64 x, .int .i64 lv])) ownRow_own rfl (fun _ => rfl) (fun vs W' hW hd => ?_) ?_
        · obtain ⟨b, eb, hb, hk⟩ := hd ⟨7, .data⟩ (by simp) rfl _ rfl (fun _ => rfl)
          have ho : World.ownsRow W' w1.heap.size 32 2 v K.length (flat K) := World.ownsRow.kept (row := none) OW2.out (only_of_below (since_below hW (Nat.le_refl _)) none) (by cases Value.ownBlock _ <;> simp)
          refine loose_append W' (.tmp 25) (.tmp 31) 23 rfl w1.heap.size 32 i0 _ 2 16 Try.underlying23 hi0 hz0 hz1 hz2 rfl (by omega) v K.length (flat K) rfl ho W'.heap.size (some ⟨b, 0, none⟩) 1 1 [.int .u64 x, .int .i64 lv] eb (blk_reads hk) (by simp [Value.oneCell']) (by unfold maxLen; omega) (by omega) (Nat.le_trans hsW hW.size) ?_
          intro v' w' ho' hg _
          exact ⟨(But.refl _ W').grown hg (fun g e => .inl e.symm), ho', trivial⟩
        simp only [Act.put, List.setIfInBounds_toArray, List.set_cons_zero, List.set_cons_succ, List.nil_append, List.cons_append, Nat.reduceAdd, Leaves.at]
        repeat (refine told_val (v := ?_) (fun _ => rfl) (fun vs W hW => ?_) ?_; rotate_left; (focus (have hf := HF2.out W hW; clear hW; go_simp; exact loose_val)); simp only [Act.put, List.setIfInBounds_toArray, List.set_cons_zero, List.set_cons_succ, List.nil_append, List.cons_append, Nat.reduceAdd, Leaves.at])
        refine told_nil ?_
        intro vs W2 hW2 hok hap
        clear hap
        dsimp only
        have hv := hok 8 _ rfl rfl
        have BW3 : Hid (But (fun i => i = w.heap.size + 1 + 1) w1 W2) := BW2.out.past hW2 (fun g hg => .inr (HLT.out g hg.symm).1)
        have XB3 := hid (hW2.blk XB2.out (fun h => by have := (HLT.out _ h.symm).1; omega))
        obtain ⟨⟨z0, z1⟩, z2, z3⟩ := label_zero XB3.out
        have HV := hid hv
        clear hok hW2 hv
        generalize vs 8 = v2 at *
        obtain ⟨A2, n2, c2, rfl⟩ := own_shape HV.out
        go_wp2_with fail
        go_roundw
        case measure => simp [intOf] <;> omega
        case rel =>
          refine ⟨k + 1, _, by omega, by go_num, BW3.out.setCell (p := ⟨w.heap.size + 1 + 1, 1, none⟩) (.inl rfl) _, Blk.set_ XB3.out 1 _, ?_⟩
          rw [HSN2.out]
          show Hid (World.ownsRow _ _ _ _ _ (K ++ [(x, lv)]).length (flat (K ++ [(x, lv)])))
          rw [List.length_append, flat_append]
          exact ownsRow_setCell_below HV.out (by show w.heap.size + 1 + 1 < w1.heap.size; omega) _
    · have hltz : ¬ (k : Int) < (m : Int) := by omega
      have hv : OwnCats wr w1.heap.size v (formL d cs) := by
        have := OW.out
        rw [List.take_of_length_le (by rw [HML.out]; omega), HFK.out] at this
        exact OwnCats.of_own this
      obtain ⟨A2, n2, c2, rfl, hT2⟩ := OwnCats.at_ hv
      have HV := hid hv
      obtain ⟨⟨y0, y1⟩, y2, y3⟩ := label_zero XB.out
      obtain ⟨⟨z0, z1⟩, z2, z3⟩ := label_zero K2
      have HK2 := hid K2
      have HB3 : Hid (Below w.heap.size w wr) := BW.out.done HS2.out (fun k hk => by subst hk; omega) (by omega)
      clear hv hT2 K1 K2
      go_wp2_with fail
      refine bodyPost_ret (label_run (label_put HK2.out _ _) rfl _ rfl) rfl ?_
      exact lab_own_end HV.out (by omega) (by omega) HB3.out
end Go.Proofs.Ytndohmimcbmhdaa

/- The document's Leq. -/
set_option linter.unusedVariables false
set_option linter.unusedSimpArgs false
namespace Go.Proofs.Ytndohmimcbmhdaa
open Go.RowKit Go.Sort

theorem NumsAt.since {w W : World} {A : Option Addr} {n c : Nat} {l : List Int} (h : NumsAt w w.heap.size A n c l) (hW : Since w W) : NumsAt W W.heap.size A n c l := (h.below (since_below hW (Nat.le_refl _))).more hW.size

set_option maxHeartbeats 4000000 in
set_option maxRecDepth 100000 in
theorem leq41 (w : World) (d d' : Int) (A A' : Option Addr) (n c n' c' : Nat) (cs cs' : List (Int × Int)) (h : CatsAt w w.heap.size A n c cs) (h' : CatsAt w w.heap.size A' n' c' cs') (hn : n + n' ≤ 17592186044416) :
    Calls Try.prog 41 #[.agg #[.int .i64 d, .slice A n c], .agg #[.int .i64 d', .slice A' n' c']] w fun e w' => e = .returned (.bool (leqD d cs d' cs')) ∧ Below w.heap.size w w' := by
  have mixed : Try.prog.follows .mixedOrders = true := by kernel_rfl
  obtain ⟨q1, q2, q3⟩ := two_blk w #[.int .i64 d, .slice A n c] #[.int .i64 d', .slice A' n' c'] 26 26
  have HB := hid q1
  have HP1 := hid q2
  have HP2 := hid q3
  have HC := hid (h.below q1)
  have HC' := hid (h'.below q1)
  have HS : Hid (leqD d cs d' cs' = (decide (d ≤ d') && (idsL (cs ++ cs')).all fun id => decide (levelL d cs id ≤ levelL d' cs' id))) := rfl
  have hil := idsL_len (cs ++ cs')
  rw [List.length_append, h.len, h'.len] at hil
  clear h h' q1 q2 q3
  by_cases hd : d ≤ d'
  · have hd2 : ¬ d' < d := by omega
    go_enter Try.func41, Try.ntmps41
    go_wp2_with fail
    generalize (w.alloc (.cells #[.int .i64 d, .slice A n c] 26)).alloc (.cells #[.int .i64 d', .slice A' n' c'] 26) = wa at *
    refine (ids100 wa d d' A A' n c n' c' cs cs' (HC.out.more HB.out.size) (HC'.out.more HB.out.size) hn).mono ?_
    rintro e w1 ⟨v0, rfl, ho, hb1⟩
    generalize idsL (cs ++ cs') = ids at *
    obtain ⟨Ai, m, ci, rfl, hN⟩ := NumsAt.of_own ho
    have HN := hid hN
    have HML := hid hN.len
    have hm : m ≤ 17592186044416 := by have := hN.len; omega
    have HB1 := hid hb1
    have hs2 := hb1.size
    have hsa := HB.out.size
    clear ho hN hb1 hil
    go_wp2_with fail
    go_loopw [17] (fun vi wr => ∃ k : Nat, k ≤ m ∧ vi = .int .i64 k ∧ Hid (Since w1 wr) ∧ Hid (∀ (j : Nat) (x : Int), j < k → ids[j]? = some x → levelL d cs x ≤ levelL d' cs' x)) (fun vi _ => m - (intOf vi).toNat)
    case atStart => exact ⟨0, Nat.zero_le _, rfl, But.refl _ _, fun j x hj => absurd hj (by omega)⟩
    case round =>
      obtain ⟨k, hk, rfl, BW, AL⟩ := hrel
      have HBr := hid (HB1.out.trans (since_below BW.out hs2))
      have HBw := hid (HB.out.trans (HBr.out.mono hsa))
      by_cases hlt : k < m
      · have hltz : (k : Int) < (m : Int) := by omega
        obtain ⟨ad, x, rfl, had, hx, cx⟩ := (HN.out.since BW.out).at_ hlt
        have HX := hid hx
        have K1 := hid (HP1.out.below HBr.out HP1.out.lt)
        have K2 := hid (HP2.out.below HBr.out HP2.out.lt)
        have HF : Hid (∀ W, But nil_ wr W → (W.cell? ⟨w.heap.size, 0, none⟩ = some (.int .i64 d) ∧ W.cell? ⟨w.heap.size, 1, none⟩ = some (.slice A n c)) ∧ (W.cell? ⟨w.heap.size + 1, 0, none⟩ = some (.int .i64 d') ∧ W.cell? ⟨w.heap.size + 1, 1, none⟩ = some (.slice A' n' c'))) := by
          intro W hW
          have r := hW.blk K1.out (fun h => h)
          have r2 := hW.blk K2.out (fun h => h)
          exact ⟨⟨(Blk.cell r 0).trans rfl, (Blk.cell r 1).trans rfl⟩, (Blk.cell r2 0).trans rfl, (Blk.cell r2 1).trans rfl⟩
        have HL1 : Hid (∀ W, But nil_ wr W → Calls Try.prog 38 #[.agg #[.int .i64 d, .slice A n c], .int .u64 x] W fun e w' => e = .returned (.int .i64 (levelL d cs x)) ∧ Below W.heap.size W w') := by
          intro W hW
          have hb := HBr.out.trans (since_below hW HBr.out.size)
          exact level38_b W d A n c cs x ((HC.out.below (hb.mono hsa)).more (Nat.le_trans hsa hb.size))
        have HL2 : Hid (∀ W, But nil_ wr W → Calls Try.prog 38 #[.agg #[.int .i64 d', .slice A' n' c'], .int .u64 x] W fun e w' => e = .returned (.int .i64 (levelL d' cs' x)) ∧ Below W.heap.size W w') := by
          intro W hW
          have hb := HBr.out.trans (since_below hW HBr.out.size)
          exact level38_b W d' A' n' c' cs' x ((HC'.out.below (hb.mono hsa)).more (Nat.le_trans hsa hb.size))
        clear hx
        by_cases hq : levelL d cs x ≤ levelL d' cs' x
        · have hb : decide (levelL d' cs' x < levelL d cs x) = false := decide_eq_false (by omega)
          have HQ := hid hq
          clear hq
          go_wp2_with fail
          refine wp_region_told 7 nil_ mixed (by kernel_rfl) ?_
          simp only [List.take_succ_cons, List.take_zero, List.drop_succ_cons, List.drop_zero]
          repeat (refine told_val (v := ?_) (fun _ => rfl) (fun vs W hW => ?_) ?_; rotate_left; (focus (have hf := HF.out W hW; clear hW; go_simp; exact loose_val)); simp only [Act.put, List.setIfInBounds_toArray, List.set_cons_zero, List.set_cons_succ, List.nil_append, List.cons_append, Nat.reduceAdd, Leaves.at])
          refine told_val (v := .int .i64 (levelL d cs x)) (fun _ => rfl) (fun vs W hW => ?_) ?_
          · go_simp
            exact loose_call (HL1.out W hW)
          simp only [Act.put, List.setIfInBounds_toArray, List.set_cons_zero, List.set_cons_succ, List.nil_append, List.cons_append, Nat.reduceAdd, Leaves.at]
          repeat (refine told_val (v := ?_) (fun _ => rfl) (fun vs W hW => ?_) ?_; rotate_left; (focus (have hf := HF.out W hW; clear hW; go_simp; exact loose_val)); simp only [Act.put, List.setIfInBounds_toArray, List.set_cons_zero, List.set_cons_succ, List.nil_append, List.cons_append, Nat.reduceAdd, Leaves.at])
          refine told_val (v := .int .i64 (levelL d' cs' x)) (fun _ => rfl) (fun vs W hW => ?_) ?_
          · go_simp
            exact loose_call (HL2.out W hW)
          simp only [Act.put, List.setIfInBounds_toArray, List.set_cons_zero, List.set_cons_succ, List.nil_append, List.cons_append, Nat.reduceAdd, Leaves.at]
          repeat (refine told_val (v := ?_) (fun _ => rfl) (fun vs W hW => ?_) ?_; rotate_left; (focus (have hf := HF.out W hW; clear hW; go_simp; exact loose_val)); simp only [Act.put, List.setIfInBounds_toArray, List.set_cons_zero, List.set_cons_succ, List.nil_append, List.cons_append, Nat.reduceAdd, Leaves.at])
          refine told_nil ?_
          intro vs W hW hok hap
          clear hap
          dsimp only
          have HW := hid hW
          clear hok hW
          go_wp2_with fail
          go_roundw
          case measure => simp [intOf] <;> omega
          case rel =>
            refine ⟨k + 1, by omega, by go_num, BW.out.trans HW.out, (show Hid _ from fun j y hj hy => ?_)⟩
            by_cases e : j = k
            · subst e
              have := HX.out
              rw [hy] at this; cases this
              exact HQ.out
            · exact AL.out j y (by omega) hy
        · have hb : decide (levelL d' cs' x < levelL d cs x) = true := decide_eq_true (by omega)
          have HE : Hid (leqD d cs d' cs' = false) := by
            show _ = _
            rw [HS.out]
            have : (ids.all fun id => decide (levelL d cs id ≤ levelL d' cs' id)) = false := by
              rw [List.all_eq_false]
              exact ⟨x, List.mem_of_getElem? HX.out, by simpa using hq⟩
            rw [this, Bool.and_false]
          clear hq
          go_wp2_with fail
          refine wp_region_told 7 nil_ mixed (by kernel_rfl) ?_
          simp only [List.take_succ_cons, List.take_zero, List.drop_succ_cons, List.drop_zero]
          repeat (refine told_val (v := ?_) (fun _ => rfl) (fun vs W hW => ?_) ?_; rotate_left; (focus (have hf := HF.out W hW; clear hW; go_simp; exact loose_val)); simp only [Act.put, List.setIfInBounds_toArray, List.set_cons_zero, List.set_cons_succ, List.nil_append, List.cons_append, Nat.reduceAdd, Leaves.at])
          refine told_val (v := .int .i64 (levelL d cs x)) (fun _ => rfl) (fun vs W hW => ?_) ?_
          · go_simp
            exact loose_call (HL1.out W hW)
          simp only [Act.put, List.setIfInBounds_toArray, List.set_cons_zero, List.set_cons_succ, List.nil_append, List.cons_append, Nat.reduceAdd, Leaves.at]
          repeat (refine told_val (v := ?_) (fun _ => rfl) (fun vs W hW => ?_) ?_; rotate_left; (focus (have hf := HF.out W hW; clear hW; go_simp; exact loose_val)); simp only [Act.put, List.setIfInBounds_toArray, List.set_cons_zero, List.set_cons_succ, List.nil_append, List.cons_append, Nat.reduceAdd, Leaves.at])
          refine told_val (v := .int .i64 (levelL d' cs' x)) (fun _ => rfl) (fun vs W hW => ?_) ?_
          · go_simp
            exact loose_call (HL2.out W hW)
          simp only [Act.put, List.setIfInBounds_toArray, List.set_cons_zero, List.set_cons_succ, List.nil_append, List.cons_append, Nat.reduceAdd, Leaves.at]
          repeat (refine told_val (v := ?_) (fun _ => rfl) (fun vs W hW => ?_) ?_; rotate_left; (focus (have hf := HF.out W hW; clear hW; go_simp; exact loose_val)); simp only [Act.put, List.setIfInBounds_toArray, List.set_cons_zero, List.set_cons_succ, List.nil_append, List.cons_append, Nat.reduceAdd, Leaves.at])
          refine told_nil ?_
          intro vs W hW hok hap
          clear hap
          dsimp only
          have HW := hid hW
          clear hok hW
          go_wp2_with fail
          go_ret
          exact ⟨by rw [HE.out]; rfl, HBw.out.trans (since_below HW.out HBw.out.size)⟩
      · have hltz : ¬ (k : Int) < (m : Int) := by omega
        have HE : Hid (leqD d cs d' cs' = true) := by
          show _ = _
          rw [HS.out, decide_eq_true hd, Bool.true_and, List.all_eq_true]
          intro x hx
          obtain ⟨j, hj, rfl⟩ := List.getElem_of_mem hx
          simpa using AL.out j _ (by rw [HML.out] at hj; omega) (List.getElem?_eq_getElem hj)
        go_wp2_with fail
        go_ret
        exact ⟨by rw [HE.out]; rfl, HBw.out⟩
  · have hd2 : d' < d := by omega
    have HE : Hid (leqD d cs d' cs' = false) := by
      show _ = _
      rw [HS.out, decide_eq_false hd, Bool.false_and]
    go_enter Try.func41, Try.ntmps41
    go_wp2_with fail
    go_ret
    exact ⟨by rw [HE.out]; rfl, HB.out⟩
end Go.Proofs.Ytndohmimcbmhdaa

/- The document's Merge. -/
set_option linter.unusedVariables false
set_option linter.unusedSimpArgs false
namespace Go.Proofs.Ytndohmimcbmhdaa
open Go.RowKit Go.Sort

def mergeK (f : Int → (Int × Int)) (ids : List Int) : List (Int × Int) := ids.map f
theorem mergeK_snoc (f : Int → (Int × Int)) (ids : List Int) (k : Nat) (x : Int) (h : ids[k]? = some x) : mergeK f (ids.take (k + 1)) = mergeK f (ids.take k) ++ [f x] := by
  unfold mergeK
  rw [List.take_add_one, h]
  simp
theorem NumsAt.but {D : Nat → Prop} {w wr : World} {B : Nat} {v : Value} {l : List Int} {A : Option Addr} {m c : Nat} (ho : w.ownsRow B 24 1 (.slice A m c) l.length (nums l)) (h : But D w wr) (hD : ∀ k, D k → k < B) (hl : l.length = m) : NumsAt wr wr.heap.size A m c l := by
  have hk := World.ownsRow.lt ho
  have ho2 : wr.ownsRow B 24 1 (.slice A m c) l.length (nums l) := by
    refine ⟨ho.1, ?_⟩
    rcases ho.2 with h1 | ⟨g, cap, cur, e, hb, hh, r⟩
    · exact .inl h1
    · refine .inr ⟨g, cap, cur, e, hb, ?_, r⟩
      have hg : g < w.heap.size := (Array.getElem?_eq_some_iff.1 hh).1
      exact (h.block g hg (fun hd => by have := hD g hd; omega)).trans hh
  obtain ⟨A', m', c', e, hN⟩ := NumsAt.of_own ho2
  injection e with e1 e2 e3
  subst e1 e2 e3
  exact hN

set_option maxHeartbeats 4000000 in
set_option maxRecDepth 100000 in
theorem merge45 (w : World) (d d' : Int) (A A' : Option Addr) (n c n' c' : Nat) (cs cs' : List (Int × Int)) (gr : Bool) (h : CatsAt w w.heap.size A n c cs) (h' : CatsAt w w.heap.size A' n' c' cs') (hn : n + n' ≤ 8796093022208) :
    Calls Try.prog 45 #[.agg #[.int .i64 d, .slice A n c], .agg #[.int .i64 d', .slice A' n' c'], .bool gr] w fun e w' => RetOwn (pickF gr d d') (formL (pickF gr d d') (mergeD (pickF gr) d cs d' cs')) w e w' := by
  have mixed : Try.prog.follows .mixedOrders = true := by kernel_rfl
  obtain ⟨i0, hi0, hz0, hz1, hz2⟩ := info_parts cat_info
  obtain ⟨dd, hdd⟩ : ∃ dd, pickF gr d d' = dd := ⟨_, rfl⟩
  have HPD := hid hdd
  clear hdd
  obtain ⟨q1, q2, q3, q4, q5, q6⟩ := four_blk w #[.int .i64 d, .slice A n c] #[.int .i64 d', .slice A' n' c'] #[.int .i64 0, .slice none 0 0] #[.int .i64 dd, .slice none 0 0] 26 26 26 26
  have HB := hid q1
  have HP1 := hid q2
  have HP2 := hid q3
  have HP3 := hid q4
  have HP4 := hid q5
  have HC := hid (h.below q1)
  have HC' := hid (h'.below q1)
  have HMD : Hid (mergeK (fun id => (id, pickF gr (levelL d cs id) (levelL d' cs' id))) (idsL (cs ++ cs')) = mergeD (pickF gr) d cs d' cs') := rfl
  have hil := idsL_len (cs ++ cs')
  rw [List.length_append, h.len, h'.len] at hil
  rw [HPD.out]
  clear h h' q1 q2 q3 q4 q5 q6
  go_enter Try.func45, Try.ntmps45
  go_wp2_with (go_at_call 106; refine (pick106 _ _ _ _).mono ?_; rintro e w' ⟨rfl, rfl⟩; rw [HPD.out])
  generalize (((w.alloc (.cells #[.int .i64 d, .slice A n c] 26)).alloc (.cells #[.int .i64 d', .slice A' n' c'] 26)).alloc (.cells #[.int .i64 0, .slice none 0 0] 26)).alloc (.cells #[.int .i64 dd, .slice none 0 0] 26) = wa at *
  refine (ids100 wa d d' A A' n c n' c' cs cs' (HC.out.more HB.out.size) (HC'.out.more HB.out.size) (by omega)).mono ?_
  rintro e w1 ⟨v0, rfl, ho, hb1⟩
  generalize idsL (cs ++ cs') = ids at *
  obtain ⟨Ai, m, ci, rfl, hN⟩ := NumsAt.of_own ho
  have HML := hid hN.len
  have hm : m ≤ 8796093022208 := by have := hN.len; omega
  have HO := hid ho
  have HB1 := hid hb1
  have hs1 := HP4.out.lt
  have hs2 := hb1.size
  have hsa := HB.out.size
  have HS2 := hid (HB.out.trans (hb1.mono hsa))
  clear ho hN hb1 hil
  obtain ⟨ff, hff⟩ : ∃ ff : Int → (Int × Int), ff = (fun id => (id, pickF gr (levelL d cs id) (levelL d' cs' id))) := ⟨_, rfl⟩
  rw [← hff] at HMD
  have HFF := hid hff
  clear hff
  go_wp2_with fail
  go_loopw [22] (fun vi wr => ∃ (k : Nat) (v : Value), k ≤ m ∧ vi = .int .i64 k ∧ Hid (But (fun i => i = w.heap.size + 1 + 1 + 1) w1 wr) ∧ Hid (Blk wr (w.heap.size + 1 + 1 + 1) 26 #[.int .i64 dd, v]) ∧ Hid (wr.ownsRow w1.heap.size 32 2 v (mergeK ff (ids.take k)).length (flat (mergeK ff (ids.take k))))) (fun vi _ => m - (intOf vi).toNat)
  case atStart => exact ⟨0, .slice none 0 0, Nat.zero_le _, rfl, But.refl _ _, HP4.out.below HB1.out hs1, World.ownsRow_nil _ _ _ _⟩
  case round =>
    obtain ⟨k, v, hk, rfl, BW, XB, OW⟩ := hrel
    have hbr : Below w.heap.size w1 wr := BW.out.done (Below.refl _ _) (fun k hk => by subst hk; omega) (by omega)
    have HCr : Hid (CatsAt wr w.heap.size A n c cs) := (HC.out.below (HB1.out.mono hsa)).below hbr
    have HCr' : Hid (CatsAt wr w.heap.size A' n' c' cs') := (HC'.out.below (HB1.out.mono hsa)).below hbr
    have K1 := hid (BW.out.blk (HP1.out.below HB1.out HP1.out.lt) (by omega))
    have K2 := hid (BW.out.blk (HP2.out.below HB1.out HP2.out.lt) (by omega))
    have K3 := hid (BW.out.blk (HP3.out.below HB1.out HP3.out.lt) (by omega))
    have hwr := BW.out.size
    clear hbr
    by_cases hlt : k < m
    · have hltz : (k : Int) < (m : Int) := by omega
      obtain ⟨ad, x, rfl, had, hx, cx⟩ := (NumsAt.but (v := v) HO.out BW.out (fun k hk => by subst hk; omega) HML.out).at_ hlt
      have HSN := hid (mergeK_snoc ff ids k x hx)
      have hkl : (mergeK ff (ids.take k)).length ≤ k := by unfold mergeK; rw [List.length_map, List.length_take]; omega
      have HFX : Hid (ff x = (x, pickF gr (levelL d cs x) (levelL d' cs' x))) := by show _ = _; rw [HFF.out]
      generalize mergeK ff (ids.take k) = K at *
      have HLT := hid (World.ownsRow.lt OW.out)
      have hB2 : ∀ W, But (row1 v) wr W → Below w.heap.size wr W := fun W hW => hW.done (Below.refl _ _) (fun k hk => by have := (HLT.out k hk.symm).1; omega) (by omega)
      have HL1 : Hid (∀ W, But (row1 v) wr W → Calls Try.prog 38 #[.agg #[.int .i64 d, .slice A n c], .int .u64 x] W fun e w' => e = .returned (.int .i64 (levelL d cs x)) ∧ Below W.heap.size W w') := by
        intro W hW
        exact level38_b W d A n c cs x ((HCr.out.below (hB2 W hW)).more (by have := hW.size; omega))
      have HL2 : Hid (∀ W, But (row1 v) wr W → Calls Try.prog 38 #[.agg #[.int .i64 d', .slice A' n' c'], .int .u64 x] W fun e w' => e = .returned (.int .i64 (levelL d' cs' x)) ∧ Below W.heap.size W w') := by
        intro W hW
        exact level38_b W d' A' n' c' cs' x ((HCr'.out.below (hB2 W hW)).more (by have := hW.size; omega))
      have HF : Hid (∀ W, But (row1 v) wr W → ((W.cell? ⟨w.heap.size, 0, none⟩ = some (.int .i64 d) ∧ W.cell? ⟨w.heap.size, 1, none⟩ = some (.slice A n c)) ∧ (W.cell? ⟨w.heap.size + 1, 0, none⟩ = some (.int .i64 d') ∧ W.cell? ⟨w.heap.size + 1, 1, none⟩ = some (.slice A' n' c'))) ∧ W.cell? ⟨w.heap.size + 1 + 1 + 1, 1, none⟩ = some v) := by
        intro W hW
        have r := hW.blk K1.out (fun h => by have := (HLT.out _ h.symm).1; omega)
        have r2 := hW.blk K2.out (fun h => by have := (HLT.out _ h.symm).1; omega)
        have r3 := hW.blk XB.out (fun h => by have := (HLT.out _ h.symm).1; omega)
        exact ⟨⟨⟨(Blk.cell r 0).trans rfl, (Blk.cell r 1).trans rfl⟩, (Blk.cell r2 0).trans rfl, (Blk.cell r2 1).trans rfl⟩, (Blk.cell r3 1).trans rfl⟩
      generalize levelL d cs x = l1 at *
      generalize levelL d' cs' x = l2 at *
      obtain ⟨lv, hlv⟩ : ∃ lv, pickF gr l1 l2 = lv := ⟨_, rfl⟩
      rw [hlv] at HFX
      have HPK : Hid (∀ W, Calls Try.prog 106 #[.int .i64 l1, .int .i64 l2, .bool gr] W fun e w' => e = .returned (.int .i64 lv) ∧ W = w') := by
        intro W
        rw [← hlv]
        exact pick106 W l1 l2 gr
      clear hlv hB2 hx
      go_wp2_with fail
      refine wp_region_told 15 (row1 v) mixed (by kernel_rfl) ?_
      simp only [List.take_succ_cons, List.take_zero, List.drop_succ_cons, List.drop_zero]
      repeat (refine told_val (v := ?_) (fun _ => rfl) (fun vs W hW => ?_) ?_; rotate_left; (focus (have hf := HF.out W hW; clear hW; go_simp; exact loose_val)); simp only [Act.put, List.setIfInBounds_toArray, List.set_cons_zero, List.set_cons_succ, List.nil_append, List.cons_append, Nat.reduceAdd, Leaves.at])
      refine told_val (v := .int .i64 l1) (fun _ => rfl) (fun vs W hW => ?_) ?_
      · go_simp
        exact loose_call (HL1.out W hW)
      simp only [Act.put, List.setIfInBounds_toArray, List.set_cons_zero, List.set_cons_succ, List.nil_append, List.cons_append, Nat.reduceAdd, Leaves.at]
      repeat (refine told_val (v := ?_) (fun _ => rfl) (fun vs W hW => ?_) ?_; rotate_left; (focus (have hf := HF.out W hW; clear hW; go_simp; exact loose_val)); simp only [Act.put, List.setIfInBounds_toArray, List.set_cons_zero, List.set_cons_succ, List.nil_append, List.cons_append, Nat.reduceAdd, Leaves.at])
      refine told_val (v := .int .i64 l2) (fun _ => rfl) (fun vs W hW => ?_) ?_
      · go_simp
        exact loose_call (HL2.out W hW)
      simp only [Act.put, List.setIfInBounds_toArray, List.set_cons_zero, List.set_cons_succ, List.nil_append, List.cons_append, Nat.reduceAdd, Leaves.at]
      repeat (refine told_val (v := ?_) (fun _ => rfl) (fun vs W hW => ?_) ?_; rotate_left; (focus (have hf := HF.out W hW; clear hW; go_simp; exact loose_val)); simp only [Act.put, List.setIfInBounds_toArray, List.set_cons_zero, List.set_cons_succ, List.nil_append, List.cons_append, Nat.reduceAdd, Leaves.at])
      refine told_val (v := .int .i64 lv) (fun _ => rfl) (fun vs W hW => ?_) ?_
      · go_simp
        exact loose_same (HPK.out W)
      simp only [Act.put, List.setIfInBounds_toArray, List.set_cons_zero, List.set_cons_succ, List.nil_append, List.cons_append, Nat.reduceAdd, Leaves.at]
      repeat (refine told_val (v := ?_) (fun _ => rfl) (fun vs W hW => ?_) ?_; rotate_left; (focus (have hf := HF.out W hW; clear hW; go_simp; exact loose_val)); simp only [Act.put, List.setIfInBounds_toArray, List.set_cons_zero, List.set_cons_succ, List.nil_append, List.cons_append, Nat.reduceAdd, Leaves.at])
      refine told_rel (NewSl wr.heap.size 32 1 #[.int .u64 x, .int .i64 lv]) (NewSl.stable (fun k hk => (HLT.out k hk.symm).2)) (fun _ => rfl) (fun vs W' hW hd => ?_) ?_
      · go_simp
        exact loose_newSl hW.size
      simp only [Act.put, List.setIfInBounds_toArray, List.set_cons_zero, List.set_cons_succ, List.nil_append, List.cons_append, Nat.reduceAdd, Leaves.at]
      refine told_own (fun W' u => World.ownsRow W' w1.heap.size 32 2 u (K.length + 1) (flat K ++ [.int .u64 x, .int .i64 lv])) ownRow_own rfl (fun _ => rfl) (fun vs W' hW hd => ?_) ?_
      · obtain ⟨b, eb, hb, hk⟩ := hd ⟨12, .data⟩ (by simp) rfl _ rfl (fun _ => rfl)
        have ho : World.ownsRow W' w1.heap.size 32 2 v K.length (flat K) := World.ownsRow.kept (row := none) OW.out (only_of_below (since_below hW (Nat.le_refl _)) none) (by cases Value.ownBlock _ <;> simp)
        refine loose_append W' (.tmp 27) (.tmp 38) 23 rfl w1.heap.size 32 i0 _ 2 16 Try.underlying23 hi0 hz0 hz1 hz2 rfl (by omega) v K.length (flat K) rfl ho W'.heap.size (some ⟨b, 0, none⟩) 1 1 [.int .u64 x, .int .i64 lv] eb (blk_reads hk) (by simp [Value.oneCell']) (by unfold maxLen; omega) (by omega) (Nat.le_trans hwr hW.size) ?_
        intro v' w' ho' hg _
        exact ⟨(But.refl _ W').grown hg (fun g e => .inl e.symm), ho', trivial⟩
      simp only [Act.put, List.setIfInBounds_toArray, List.set_cons_zero, List.set_cons_succ, List.nil_append, List.cons_append, Nat.reduceAdd, Leaves.at]
      repeat (refine told_val (v := ?_) (fun _ => rfl) (fun vs W hW => ?_) ?_; rotate_left; (focus (have hf := HF.out W hW; clear hW; go_simp; exact loose_val)); simp only [Act.put, List.setIfInBounds_toArray, List.set_cons_zero, List.set_cons_succ, List.nil_append, List.cons_append, Nat.reduceAdd, Leaves.at])
      refine told_nil ?_
      intro vs W2 hW2 hok hap
      clear hap
      dsimp only
      have hv := hok 13 _ rfl rfl
      have BW3 : Hid (But (fun i => i = w.heap.size + 1 + 1 + 1) w1 W2) := BW.out.past hW2 (fun g hg => .inr (HLT.out g hg.symm).1)
      have XB3 := hid (hW2.blk XB.out (fun h => by have := (HLT.out _ h.symm).1; omega))
      obtain ⟨⟨z0, z1⟩, z2, z3⟩ := label_zero XB3.out
      have HV := hid hv
      clear hok hW2 hv
      generalize vs 13 = v2 at *
      obtain ⟨A2, n2, c2, rfl⟩ := own_shape HV.out
      go_wp2_with fail
      go_roundw
      case measure => simp [intOf] <;> omega
      case rel =>
        refine ⟨k + 1, _, by omega, by go_num, BW3.out.setCell (p := ⟨w.heap.size + 1 + 1 + 1, 1, none⟩) (.inl rfl) _, Blk.set_ XB3.out 1 _, ?_⟩
        rw [HSN.out, HFX.out]
        show Hid (World.ownsRow _ _ _ _ _ (K ++ [(x, lv)]).length (flat (K ++ [(x, lv)])))
        rw [List.length_append, flat_append]
        exact ownsRow_setCell_below HV.out (by show w.heap.size + 1 + 1 + 1 < w1.heap.size; omega) _
    · have hltz : ¬ (k : Int) < (m : Int) := by omega
      have hv : OwnCats wr w1.heap.size v (mergeD (pickF gr) d cs d' cs') := by
        have := OW.out
        rw [List.take_of_length_le (by rw [HML.out]; omega), HMD.out] at this
        exact OwnCats.of_own this
      have hmd : (mergeD (pickF gr) d cs d' cs').length ≤ 8796093022208 := by
        rw [← HMD.out]; unfold mergeK; rw [List.length_map, HML.out]; exact hm
      generalize hM : mergeD (pickF gr) d cs d' cs' = M at *
      have HM := hid hM
      clear hM
      obtain ⟨A2, n2, c2, rfl, hT2⟩ := OwnCats.at_ hv
      obtain ⟨⟨y0, y1⟩, y2, y3⟩ := label_zero XB.out
      have HT2 := hid hT2
      have HB3 : Hid (Below w.heap.size w wr) := BW.out.done HS2.out (fun k hk => by subst hk; omega) (by omega)
      clear hv hT2 OW
      go_wp2_with fail
      refine (form35 wr dd A2 n2 c2 M HT2.out (by rw [← HT2.out.len]; exact hmd)).mono ?_
      rintro e w3 ⟨A3, n3, c3, rfl, hv3, hb3⟩
      have hk3 := K3.out.below hb3 K3.out.lt
      obtain ⟨⟨z0, z1⟩, z2, z3⟩ := label_zero hk3
      have HK3 := hid hk3
      have HV3 := hid hv3
      have HB4 := hid (HB3.out.trans (hb3.mono HB3.out.size))
      clear hk3 hv3 hb3
      go_wp2_with fail
      refine bodyPost_ret (label_run (label_put HK3.out _ _) rfl _ rfl) rfl ?_
      have hv4 := HV3.out
      rw [← HM.out] at hv4
      exact lab_own_end hv4 (by omega) K3.out.lt HB4.out
end Go.Proofs.Ytndohmimcbmhdaa
