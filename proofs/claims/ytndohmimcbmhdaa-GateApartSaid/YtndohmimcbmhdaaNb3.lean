/- The document's Right of a thing of kind 2. -/
import Derived.Test.YtndohmimcbmhdaaNa0
import Derived.Test.YtndohmimcbmhdaaNb2
set_option linter.unusedVariables false
set_option linter.unusedSimpArgs false
namespace Go.Proofs.Ytndohmimcbmhdaa
open Go.RowKit Go.Sort

theorem Blk.frontk_2 {w : World} {g : Nat} {t : Th} (hk : t.kind = 2) (h : Blk w g 61 (thC t)) : w.cell? ⟨g, 0, none⟩ = some (.int .u64 t.id) ∧ w.cell? ⟨g, 1, none⟩ = some (.int .i64 2) ∧ w.cell? ⟨g, 2, none⟩ = some (.int .i64 t.d1) ∧ w.cell? ⟨g, 3, none⟩ = some (.slice t.l1.a t.l1.n t.l1.c) ∧ w.cell? ⟨g, 4, none⟩ = some (.int .i64 t.d2) ∧ w.cell? ⟨g, 5, none⟩ = some (.slice t.l2.a t.l2.n t.l2.c) ∧ w.cell? ⟨g, 6, none⟩ = some (.int .i64 t.quota) := by
  obtain ⟨a0, a1, a2, a3, a4, a5, a6, _⟩ := Blk.front h
  rw [hk] at a1
  exact ⟨a0, a1, a2, a3, a4, a5, a6⟩
set_option maxHeartbeats 16000000 in
set_option maxRecDepth 100000 in
theorem ref71_2 (w : World) (t : Th) (p : Tl) (h : ThAt w t p) (hr : ThR t) (hk : t.kind = 2) : Calls Try.prog 71 #[.agg (thC t)] w fun e w' => e = .returned (.bool (rref_2 t p)) ∧ Below w.heap.size w w' := by
  have mixed : Try.prog.follows .mixedOrders = true := by kernel_rfl
  have HB : Hid (Below w.heap.size w (w.alloc (.cells (thC t) 61))) := (Below.refl _ w).alloc (Nat.le_refl _) _
  have HP : Hid (Blk (w.alloc (.cells (thC t) 61)) w.heap.size 61 (thC t)) := Blk.new w 61 _
  have H := hid (ThAt.below h HB.out)
  have HI := hid (ThAt.in_ h HB.out)
  have HR := hid hr
  have HK := hid hk
  obtain ⟨n, hn⟩ : ∃ z, z = namedB t.id := ⟨_, rfl⟩
  obtain ⟨r, hrr⟩ : ∃ z, z = rightB t.d1 p.l1 := ⟨_, rfl⟩
  obtain ⟨m, hm⟩ : ∃ z, z = (!((regsL t).any notCanon)) := ⟨_, rfl⟩
  obtain ⟨d, hd⟩ : ∃ z, z = (t.quota == 1) := ⟨_, rfl⟩
  obtain ⟨s, hs⟩ : ∃ z, z = sameT (strip2 t) (stl2 p) (bare0 t) (bl0 p) := ⟨_, rfl⟩
  obtain ⟨c1, hc1⟩ : ∃ z, z = !n := ⟨_, rfl⟩
  obtain ⟨c4, hc4⟩ : ∃ z, z = (c1 || !r) := ⟨_, rfl⟩
  obtain ⟨c5, hc5⟩ : ∃ z, z = c4 := ⟨_, rfl⟩
  obtain ⟨a, ha⟩ : ∃ z, z = (pureB t.d2 p.l2 && ageB t) := ⟨_, rfl⟩
  have HE : Hid (rref_2 t p = (!c5 && (m && (a && (d && s))))) := by
    show _ = _
    unfold rref_2 front71
    rw [hc5, hc4, hc1, ← hn, ← hrr, ← hm, ← hd, ← hs, ← ha]
    cases n <;> cases r <;> rfl
  have HN : Hid (∀ W, Calls Try.prog 116 #[.int .u64 t.id] W fun e w' => e = .returned (.bool n) ∧ W = w') := fun W => by rw [hn]; exact named116 W _
  have HR1 : Hid (∀ W, But nil_ (w.alloc (.cells (thC t) 61)) W → Calls Try.prog 52 #[.agg #[.int .i64 t.d1, .slice t.l1.a t.l1.n t.l1.c]] W fun e w' => e = .returned (.bool r) ∧ Below W.heap.size W w') := fun W hW => by rw [hrr]; exact right52 W _ _ _ _ _ (H.out.since_ hW).c1
  have HS : Hid (∀ W, ThAt W t p → Calls Try.prog 75 #[.agg (thC (strip2 t)), .agg (thC (bare0 t))] W fun e w' => e = .returned (.bool s) ∧ Below W.heap.size W w') := fun W hW => by rw [hs]; exact same75 W _ _ _ _ hW.s2 hW.b0
  have HC1 := hid hc1
  have HC4 := hid hc4
  have HC5 := hid hc5
  have HD := hid hd
  have HM := hid hm
  have HA := hid ha
  clear hn hrr hm hd hs hc1 hc4 hc5 h hr hk ha
  go_enter Try.func71, Try.ntmps71
  go_wp2_with (refine wp_list_told 26 26 nil_ rfl (by decide) ?_)
  generalize w.alloc (.cells (thC t) 61) = wa at *
  have HF : Hid (∀ W, But nil_ wa W → _) := fun W hW => Blk.frontk_2 HK.out (hW.blk HP.out (fun h => h))
  try simp only [List.take_succ_cons, List.take_zero, List.drop_succ_cons, List.drop_zero]
  repeat (refine told_val (v := ?_) (fun _ => rfl) (fun vs W hW => ?_) ?_; rotate_left; (focus (have hf := HF.out W hW; clear hW; go_simp; exact loose_val)); simp only [Act.put, List.setIfInBounds_toArray, List.set_cons_zero, List.set_cons_succ, List.nil_append, List.cons_append, Nat.reduceAdd, Leaves.at])
  refine told_val (v := .bool n) (fun _ => rfl) (fun vs W hW => ?_) ?_
  · go_simp
    exact loose_same (HN.out W)
  simp only [Act.put, List.setIfInBounds_toArray, List.set_cons_zero, List.set_cons_succ, List.nil_append, List.cons_append, Nat.reduceAdd, Leaves.at]
  refine told_val (v := .bool c1) (hw := fun _ => rfl) (hr := fun vs W hW => by rw [HC1.out]; clear hW; go_simp; exact loose_val) ?_
  simp only [Act.put, List.setIfInBounds_toArray, List.set_cons_zero, List.set_cons_succ, List.nil_append, List.cons_append, Nat.reduceAdd, Leaves.at]
  repeat (refine told_val (v := ?_) (fun _ => rfl) (fun vs W hW => ?_) ?_; rotate_left; (focus (have hf := HF.out W hW; clear hW; go_simp; exact loose_val)); simp only [Act.put, List.setIfInBounds_toArray, List.set_cons_zero, List.set_cons_succ, List.nil_append, List.cons_append, Nat.reduceAdd, Leaves.at])
  repeat (refine told_not (b := c1) (v := ?_) (fun _ => Bool.casesOn c1 rfl rfl) (fun hb vs W hW => ?_) ?_; rotate_left; (focus (have hf := HF.out W hW; clear hW; (try simp only [hb, cond_true, cond_false]); go_simp; exact loose_val)); simp only [Act.put, List.setIfInBounds_toArray, List.set_cons_zero, List.set_cons_succ, List.nil_append, List.cons_append, Nat.reduceAdd, Leaves.at])
  refine told_not (b := c1) (v := .bool r) (fun _ => Bool.casesOn c1 rfl rfl) (fun hb vs W hW => ?_) ?_
  · try simp only [hb, cond_true, cond_false]
    go_simp
    exact loose_call (HR1.out W hW)
  simp only [Act.put, List.setIfInBounds_toArray, List.set_cons_zero, List.set_cons_succ, List.nil_append, List.cons_append, Nat.reduceAdd, Leaves.at]
  repeat (refine told_not (b := c1) (v := ?_) (fun _ => Bool.casesOn c1 rfl rfl) (fun hb vs W hW => ?_) ?_; rotate_left; (focus (have hf := HF.out W hW; clear hW; (try simp only [hb, cond_true, cond_false]); go_simp; exact loose_val)); simp only [Act.put, List.setIfInBounds_toArray, List.set_cons_zero, List.set_cons_succ, List.nil_append, List.cons_append, Nat.reduceAdd, Leaves.at])
  refine told_val (v := .bool c4) (hw := fun _ => rfl) (hr := fun vs W hW => by rw [HC4.out]; clear hW; cases c1 <;> (go_simp; exact loose_val)) ?_
  simp only [Act.put, List.setIfInBounds_toArray, List.set_cons_zero, List.set_cons_succ, List.nil_append, List.cons_append, Nat.reduceAdd, Leaves.at]
  repeat (refine told_val (v := ?_) (fun _ => rfl) (fun vs W hW => ?_) ?_; rotate_left; (focus (have hf := HF.out W hW; clear hW; go_simp; exact loose_val)); simp only [Act.put, List.setIfInBounds_toArray, List.set_cons_zero, List.set_cons_succ, List.nil_append, List.cons_append, Nat.reduceAdd, Leaves.at])
  iterate 4 (refine told_not (b := c4) (v := ?_) (fun _ => Bool.casesOn c4 rfl rfl) (fun hb vs W hW => ?_) ?_; rotate_left; (focus (have hf := HF.out W hW; clear hW; (try simp only [hb, cond_true, cond_false]); go_simp; exact loose_val)); simp only [Act.put, List.setIfInBounds_toArray, List.set_cons_zero, List.set_cons_succ, List.nil_append, List.cons_append, Nat.reduceAdd, Leaves.at])
  refine told_off (fun _ => by cases c4 <;> rfl) ?_
  simp only [Act.put, List.setIfInBounds_toArray, List.set_cons_zero, List.set_cons_succ, List.nil_append, List.cons_append, Nat.reduceAdd, Leaves.at]
  refine told_off (fun _ => by cases c4 <;> rfl) ?_
  simp only [Act.put, List.setIfInBounds_toArray, List.set_cons_zero, List.set_cons_succ, List.nil_append, List.cons_append, Nat.reduceAdd, Leaves.at]
  refine told_off (fun _ => by cases c4 <;> rfl) ?_
  simp only [Act.put, List.setIfInBounds_toArray, List.set_cons_zero, List.set_cons_succ, List.nil_append, List.cons_append, Nat.reduceAdd, Leaves.at]
  refine told_not (b := c4) (v := .bool false) (fun _ => Bool.casesOn c4 rfl rfl) (fun hb vs W hW => ?_) ?_
  · clear hW; subst hb; go_simp; exact loose_val
  simp only [Act.put, List.setIfInBounds_toArray, List.set_cons_zero, List.set_cons_succ, List.nil_append, List.cons_append, Nat.reduceAdd, Leaves.at]
  refine told_not (b := c4) (v := .bool false) (fun _ => Bool.casesOn c4 rfl rfl) (fun hb vs W hW => ?_) ?_
  · clear hW; subst hb; go_simp; exact loose_val
  simp only [Act.put, List.setIfInBounds_toArray, List.set_cons_zero, List.set_cons_succ, List.nil_append, List.cons_append, Nat.reduceAdd, Leaves.at]
  refine told_off (fun _ => by cases c4 <;> rfl) ?_
  simp only [Act.put, List.setIfInBounds_toArray, List.set_cons_zero, List.set_cons_succ, List.nil_append, List.cons_append, Nat.reduceAdd, Leaves.at]
  refine told_off (fun _ => by cases c4 <;> rfl) ?_
  simp only [Act.put, List.setIfInBounds_toArray, List.set_cons_zero, List.set_cons_succ, List.nil_append, List.cons_append, Nat.reduceAdd, Leaves.at]
  refine told_off (fun _ => by cases c4 <;> rfl) ?_
  simp only [Act.put, List.setIfInBounds_toArray, List.set_cons_zero, List.set_cons_succ, List.nil_append, List.cons_append, Nat.reduceAdd, Leaves.at]
  refine told_off (fun _ => by cases c4 <;> rfl) ?_
  simp only [Act.put, List.setIfInBounds_toArray, List.set_cons_zero, List.set_cons_succ, List.nil_append, List.cons_append, Nat.reduceAdd, Leaves.at]
  refine told_not (b := c4) (v := .bool false) (fun _ => Bool.casesOn c4 rfl rfl) (fun hb vs W hW => ?_) ?_
  · clear hW; subst hb; go_simp; exact loose_val
  simp only [Act.put, List.setIfInBounds_toArray, List.set_cons_zero, List.set_cons_succ, List.nil_append, List.cons_append, Nat.reduceAdd, Leaves.at]
  refine told_val (v := .bool c5) (hw := fun _ => rfl) (hr := fun vs W hW => by rw [HC5.out]; clear hW; cases c4 <;> (go_simp; exact loose_val)) ?_
  simp only [Act.put, List.setIfInBounds_toArray, List.set_cons_zero, List.set_cons_succ, List.nil_append, List.cons_append, Nat.reduceAdd, Leaves.at]
  refine told_nil ?_
  intro vs W1 hW1 hok hap
  clear hap
  dsimp only
  have HW1 := hid hW1
  have HB1 := hid (HB.out.trans (since_below hW1 HB.out.size))
  have hlt1 : w.heap.size < W1.heap.size := Nat.lt_of_lt_of_le HP.out.lt hW1.size
  have HX1 := hid (hW1.blk HP.out (fun h => h))
  clear hok hW1 HF
  cases c5 with
  | true =>
    go_wp2_with fail
    go_ret
    exact ⟨by rw [HE.out]; rfl, HB1.out⟩
  | false =>
    go_wp2_with (first
      | (with_reducible refine wpList_load61 t w.heap.size ?_ HX1.out ?_
         exact rfl)
      | (with_reducible refine wpList_new61 t ?_ ?_ ?_
         · exact rfl
         · exact rfl
         have HB2 := hid (HB1.out.alloc (Nat.le_of_lt hlt1) (.cells (thC t) 61))
         have HI2 : Hid (ThIn (W1.alloc (.cells (thC t) 61)) w.heap.size t p) := (HI.out.below ((since_below HW1.out (Nat.le_of_lt HP.out.lt)).alloc (Nat.le_of_lt hlt1) _))
         have HKa : Hid (Blk (W1.alloc (.cells (thC t) 61)) w.heap.size 61 (thC t)) := HX1.out.alloc _
         have HKb : Hid (Blk (W1.alloc (.cells (thC t) 61)) W1.heap.size 61 (thC t)) := Blk.new W1 61 _
         have HKc : Hid (Blk (W1.alloc (.cells (thC t) 61)) w.heap.size 61 t.cells.toArray) := HKa.out
         clear HX1 HB1 HW1 H HI HB HP HR1
         generalize W1.alloc (.cells (thC t) 61) = wb at *
         generalize W1.heap.size = gb at *
         have f1 : wb.cell? ⟨w.heap.size, 1, none⟩ = some (.int .i64 2) := (Blk.frontk_2 HK.out HKa.out).2.1)
      | (with_reducible refine wpList_loadA (ty := 58) (g := w.heap.size) (off := 10) (t := 61) (cur := t.cells) [.int .u64 t.r0, .int .u64 t.r1, .int .u64 t.r2, .int .u64 t.r3] ?_ HKc.out agg58 ?_ ?_ ?_
         · exact rfl
         · exact size58
         · exact rfl))
    go_loopw [122] (fun vi wr => ∃ k : Nat, k ≤ 4 ∧ vi = .int .i64 k ∧ Hid (Below wb.heap.size wb wr) ∧ Hid (((regsL t).take k).any notCanon = false)) (fun vi _ => 4 - (intOf vi).toNat)
    case atStart => exact ⟨0, Nat.zero_le _, rfl, Below.refl _ _, rfl⟩
    case round =>
      obtain ⟨k, hk, rfl, BW, AL⟩ := hrel
      clear f1
      have HSW := hid ((But.refl nil_ wb).below BW.out)
      by_cases hlt : k < 4
      · have hltz : (k : Int) < 4 := by omega
        obtain ⟨x, hx⟩ : ∃ z, (regsL t)[k]? = some z := ⟨(regsL t)[k]'(by simpa [regsL] using hlt), List.getElem?_eq_getElem _⟩
        have HX := hid hx
        have HX4 : Hid ([t.r0, t.r1, t.r2, t.r3][k]? = some x) := hx
        have HXR : Hid (u64R x) := by
          have hk4 : k = 0 ∨ k = 1 ∨ k = 2 ∨ k = 3 := by omega
          rcases hk4 with rfl | rfl | rfl | rfl <;> (obtain rfl := Option.some.inj hx)
          · exact HR.out.r0
          · exact HR.out.r1
          · exact HR.out.r2
          · exact HR.out.r3
        clear hx
        have HCN : Hid (∀ W, Calls Try.prog 117 #[.int .u64 x] W fun e w' => e = .returned (.int .u64 (canon x)) ∧ W = w') := fun W => canon117 x W HXR.out.1 (by have := HXR.out.2; omega)
        have HNC : Hid (notCanon x = (canon x != x)) := rfl
        generalize canon x = cx at *
        by_cases hc : cx = x
        · have hcb : (cx != x) = false := by simpa using hc
          have HNF : Hid (notCanon x = false) := HNC.out.trans hcb
          clear hc
          go_wp2_with (first
            | ((with_reducible refine wpList_at58 k t.r0 t.r1 t.r2 t.r3 x HX4.out ?_ ?_ ?_); exact rfl; exact rfl)
            | (go_at_call 117; with_reducible refine (HCN.out _).mono ?_; rintro e w' ⟨rfl, rfl⟩))
          go_roundw
          case measure => simp [intOf] <;> omega
          case rel =>
            refine ⟨k + 1, by omega, by go_num, BW.out, (show Hid _ from ?_)⟩
            show _ = _
            rw [List.take_add_one, HX.out, List.any_append, AL.out]
            simpa using HNF.out
        · have hcb : (cx != x) = true := by simpa using hc
          have HNF : Hid (notCanon x = true) := HNC.out.trans hcb
          clear hc
          have HMF : Hid (m = false) := by
            show _ = _
            rw [HM.out]
            have : (regsL t).any notCanon = true := List.any_eq_true.2 ⟨_, List.mem_of_getElem? HX.out, HNF.out⟩
            rw [this]; rfl
          go_wp2_with (first
            | ((with_reducible refine wpList_at58 k t.r0 t.r1 t.r2 t.r3 x HX4.out ?_ ?_ ?_); exact rfl; exact rfl)
            | (go_at_call 117; with_reducible refine (HCN.out _).mono ?_; rintro e w' ⟨rfl, rfl⟩))
          go_ret
          exact ⟨by rw [HE.out, HMF.out]; rfl, HB2.out.trans (BW.out.mono HB2.out.size)⟩
      · have hltz : ¬ (k : Int) < 4 := by omega
        have HMT : Hid (m = true) := by
          show _ = _
          have := AL.out
          rw [List.take_of_length_le (by simp [regsL]; omega)] at this
          rw [HM.out, this]; rfl
        have HB3 := hid (HB2.out.trans (BW.out.mono HB2.out.size))
        have HKa3 := hid (HSW.out.blk HKa.out (fun h => h))
        have HKb3 := hid (HSW.out.blk HKb.out (fun h => h))
        have HI3 := hid (HI2.out.below ((since_below HSW.out (Nat.le_of_lt HKa.out.lt))))
        obtain rfl : m = true := HMT.out
        have hlb : w.heap.size < wr.heap.size := HKa3.out.lt
        obtain ⟨u, hu⟩ : ∃ z, z = pureB t.d2 p.l2 := ⟨_, rfl⟩
        have HU : Hid (∀ W, But nil_ wr W → Calls Try.prog 118 #[.agg #[.int .i64 t.d2, .slice t.l2.a t.l2.n t.l2.c]] W fun e w' => e = .returned (.bool u) ∧ Below W.heap.size W w') := fun W hW => by rw [hu]; exact clean118 W _ _ _ _ _ ((HI3.out.at_ (Nat.le_of_lt hlb)).since_ hW).c2
        obtain ⟨c7, hc7⟩ : ∃ z, z = !u := ⟨_, rfl⟩
        obtain ⟨c8, hc8⟩ : ∃ z, z = (c7 || decide (t.minted < 0)) := ⟨_, rfl⟩
        obtain ⟨c9, hc9⟩ : ∃ z, z = (c8 || decide (31 < t.minted)) := ⟨_, rfl⟩
        obtain ⟨c10, hc10⟩ : ∃ z, z = (c9 || decide (t.boot < 0)) := ⟨_, rfl⟩
        obtain ⟨c11, hc11⟩ : ∃ z, z = (c10 || decide (255 < t.boot)) := ⟨_, rfl⟩
        have HAQ : Hid (a = !c11) := by
          show _ = _
          rw [HA.out, hc11, hc10, hc9, hc8, hc7, ← hu]
          unfold ageB
          have q1 : decide (0 ≤ t.minted) = !(decide (t.minted < 0)) := by rw [Bool.eq_iff_iff]; simp
          have q2 : decide (t.minted ≤ 31) = !(decide (31 < t.minted)) := by rw [Bool.eq_iff_iff]; simp
          have q3 : decide (0 ≤ t.boot) = !(decide (t.boot < 0)) := by rw [Bool.eq_iff_iff]; simp
          have q4 : decide (t.boot ≤ 255) = !(decide (255 < t.boot)) := by rw [Bool.eq_iff_iff]; simp
          rw [q1, q2, q3, q4]
          cases u <;> cases decide (t.minted < 0) <;> cases decide (31 < t.minted) <;> cases decide (t.boot < 0) <;> cases decide (255 < t.boot) <;> rfl
        have HC7 := hid hc7
        have HC8 := hid hc8
        have HC9 := hid hc9
        have HC10 := hid hc10
        have HC11 := hid hc11
        clear hu hc7 hc8 hc9 hc10 hc11
        have HF : Hid (∀ W, But nil_ wr W → ((W.cell? ⟨w.heap.size, 4, none⟩ = some (.int .i64 t.d2) ∧ W.cell? ⟨w.heap.size, 5, none⟩ = some (.slice t.l2.a t.l2.n t.l2.c)) ∧ W.cell? ⟨w.heap.size, 14, none⟩ = some (.int .i64 t.minted) ∧ W.cell? ⟨w.heap.size, 15, none⟩ = some (.int .i64 t.boot))) := fun W hW => ⟨(Blk.cells26 (hW.blk HKa3.out (fun h => h))).2.1, (Blk.cell (hW.blk HKa3.out (fun h => h)) 14).trans rfl, (Blk.cell (hW.blk HKa3.out (fun h => h)) 15).trans rfl⟩
        go_wp2_with (refine wp_list_told 24 24 nil_ rfl (by decide) ?_)
        try simp only [List.take_succ_cons, List.take_zero, List.drop_succ_cons, List.drop_zero]
        repeat (refine told_val (v := ?_) (fun _ => rfl) (fun vs W hW => ?_) ?_; rotate_left; (focus (have hf := HF.out W hW; clear hW; go_simp; exact loose_val)); simp only [Act.put, List.setIfInBounds_toArray, List.set_cons_zero, List.set_cons_succ, List.nil_append, List.cons_append, Nat.reduceAdd, Leaves.at])
        refine told_val (v := .bool u) (fun _ => rfl) (fun vs W hW => ?_) ?_
        · go_simp
          exact loose_call (HU.out W hW)
        simp only [Act.put, List.setIfInBounds_toArray, List.set_cons_zero, List.set_cons_succ, List.nil_append, List.cons_append, Nat.reduceAdd, Leaves.at]
        refine told_val (v := .bool c7) (hw := fun _ => rfl) (hr := fun vs W hW => by rw [HC7.out]; clear hW; go_simp; exact loose_val) ?_
        simp only [Act.put, List.setIfInBounds_toArray, List.set_cons_zero, List.set_cons_succ, List.nil_append, List.cons_append, Nat.reduceAdd, Leaves.at]
        repeat (refine told_val (v := ?_) (fun _ => rfl) (fun vs W hW => ?_) ?_; rotate_left; (focus (have hf := HF.out W hW; clear hW; go_simp; exact loose_val)); simp only [Act.put, List.setIfInBounds_toArray, List.set_cons_zero, List.set_cons_succ, List.nil_append, List.cons_append, Nat.reduceAdd, Leaves.at])
        repeat (refine told_not (b := c7) (v := ?_) (fun _ => Bool.casesOn c7 rfl rfl) (fun hb vs W hW => ?_) ?_; rotate_left; (focus (have hf := HF.out W hW; clear hW; (try simp only [hb, cond_true, cond_false]); go_simp; exact loose_val)); simp only [Act.put, List.setIfInBounds_toArray, List.set_cons_zero, List.set_cons_succ, List.nil_append, List.cons_append, Nat.reduceAdd, Leaves.at])
        refine told_val (v := .bool c8) (hw := fun _ => rfl) (hr := fun vs W hW => by rw [HC8.out]; clear hW; cases c7 <;> (go_simp; exact loose_val)) ?_
        simp only [Act.put, List.setIfInBounds_toArray, List.set_cons_zero, List.set_cons_succ, List.nil_append, List.cons_append, Nat.reduceAdd, Leaves.at]
        repeat (refine told_val (v := ?_) (fun _ => rfl) (fun vs W hW => ?_) ?_; rotate_left; (focus (have hf := HF.out W hW; clear hW; go_simp; exact loose_val)); simp only [Act.put, List.setIfInBounds_toArray, List.set_cons_zero, List.set_cons_succ, List.nil_append, List.cons_append, Nat.reduceAdd, Leaves.at])
        repeat (refine told_not (b := c8) (v := ?_) (fun _ => Bool.casesOn c8 rfl rfl) (fun hb vs W hW => ?_) ?_; rotate_left; (focus (have hf := HF.out W hW; clear hW; (try simp only [hb, cond_true, cond_false]); go_simp; exact loose_val)); simp only [Act.put, List.setIfInBounds_toArray, List.set_cons_zero, List.set_cons_succ, List.nil_append, List.cons_append, Nat.reduceAdd, Leaves.at])
        refine told_val (v := .bool c9) (hw := fun _ => rfl) (hr := fun vs W hW => by rw [HC9.out]; clear hW; cases c8 <;> (go_simp; exact loose_val)) ?_
        simp only [Act.put, List.setIfInBounds_toArray, List.set_cons_zero, List.set_cons_succ, List.nil_append, List.cons_append, Nat.reduceAdd, Leaves.at]
        repeat (refine told_val (v := ?_) (fun _ => rfl) (fun vs W hW => ?_) ?_; rotate_left; (focus (have hf := HF.out W hW; clear hW; go_simp; exact loose_val)); simp only [Act.put, List.setIfInBounds_toArray, List.set_cons_zero, List.set_cons_succ, List.nil_append, List.cons_append, Nat.reduceAdd, Leaves.at])
        repeat (refine told_not (b := c9) (v := ?_) (fun _ => Bool.casesOn c9 rfl rfl) (fun hb vs W hW => ?_) ?_; rotate_left; (focus (have hf := HF.out W hW; clear hW; (try simp only [hb, cond_true, cond_false]); go_simp; exact loose_val)); simp only [Act.put, List.setIfInBounds_toArray, List.set_cons_zero, List.set_cons_succ, List.nil_append, List.cons_append, Nat.reduceAdd, Leaves.at])
        refine told_val (v := .bool c10) (hw := fun _ => rfl) (hr := fun vs W hW => by rw [HC10.out]; clear hW; cases c9 <;> (go_simp; exact loose_val)) ?_
        simp only [Act.put, List.setIfInBounds_toArray, List.set_cons_zero, List.set_cons_succ, List.nil_append, List.cons_append, Nat.reduceAdd, Leaves.at]
        repeat (refine told_val (v := ?_) (fun _ => rfl) (fun vs W hW => ?_) ?_; rotate_left; (focus (have hf := HF.out W hW; clear hW; go_simp; exact loose_val)); simp only [Act.put, List.setIfInBounds_toArray, List.set_cons_zero, List.set_cons_succ, List.nil_append, List.cons_append, Nat.reduceAdd, Leaves.at])
        repeat (refine told_not (b := c10) (v := ?_) (fun _ => Bool.casesOn c10 rfl rfl) (fun hb vs W hW => ?_) ?_; rotate_left; (focus (have hf := HF.out W hW; clear hW; (try simp only [hb, cond_true, cond_false]); go_simp; exact loose_val)); simp only [Act.put, List.setIfInBounds_toArray, List.set_cons_zero, List.set_cons_succ, List.nil_append, List.cons_append, Nat.reduceAdd, Leaves.at])
        refine told_val (v := .bool c11) (hw := fun _ => rfl) (hr := fun vs W hW => by rw [HC11.out]; clear hW; cases c10 <;> (go_simp; exact loose_val)) ?_
        simp only [Act.put, List.setIfInBounds_toArray, List.set_cons_zero, List.set_cons_succ, List.nil_append, List.cons_append, Nat.reduceAdd, Leaves.at]
        refine told_nil ?_
        intro vs W4 hW4 hok hap
        clear hap
        dsimp only
        have HKa4 := hid (hW4.blk HKa3.out (fun h => h))
        have HKb4 := hid (hW4.blk HKb3.out (fun h => h))
        have HB4 := hid (HB3.out.trans (since_below hW4 HB3.out.size))
        have HI4 := hid (HI3.out.below (since_below hW4 (Nat.le_of_lt HKa3.out.lt)))
        clear hok hW4 HF HU HKa3 HKb3 HI3 HKa HKb HB2 HI2 AL BW HSW HC7 HC8 HC9 HC10 HC11
        cases c11 with
        | true =>
          obtain rfl : a = false := HAQ.out
          go_wp2_with fail
          go_ret
          exact ⟨by rw [HE.out]; rfl, HB4.out⟩
        | false =>
          obtain rfl : a = true := HAQ.out
          go_wp2_with (first
            | ((with_reducible refine wpList_put61 { t with d2 := 0, l2 := ⟨none, 0, 0⟩, r0 := 0, r1 := 0, r2 := 0, r3 := 0, minted := 0, boot := 0 } (strip2 t) gb 16 (.bool false) [.bool false] ?_ ?_ HKb8.out ?_ ?_ ?_ ?_ ?_ ?_)
               · exact rfl
               · exact rfl
               · exact rfl
               · exact size4
               · exact Nat.le_of_ble_eq_true rfl
               · exact one_of rfl
               · exact rfl
               intro w9 hb5 hk5
               have HKb9 := hid hk5
               have HKa9 := hid (hb5.blk HKa8.out (at_ne hlt1))
               have HB9 := hid (hb5.done HB8.out (at_ge hlt1) (Nat.le_of_lt HKa8.out.lt))
               have HI9 := hid (HI8.out.below (hb5.done (Below.refl w.heap.size w8) (at_ge hlt1) (Nat.le_of_lt HKa8.out.lt)))
               clear hb5 hk5)
            | ((with_reducible refine wpList_put61 { t with d2 := 0, l2 := ⟨none, 0, 0⟩, r0 := 0, r1 := 0, r2 := 0, r3 := 0, minted := 0 } { t with d2 := 0, l2 := ⟨none, 0, 0⟩, r0 := 0, r1 := 0, r2 := 0, r3 := 0, minted := 0, boot := 0 } gb 15 (.int .i64 0) [.int .i64 0] ?_ ?_ HKb7.out ?_ ?_ ?_ ?_ ?_ ?_)
               · exact rfl
               · exact rfl
               · exact rfl
               · exact size3
               · exact Nat.le_of_ble_eq_true rfl
               · exact one_of rfl
               · exact rfl
               intro w8 hb5 hk5
               have HKb8 := hid hk5
               have HKa8 := hid (hb5.blk HKa7.out (at_ne hlt1))
               have HB8 := hid (hb5.done HB7.out (at_ge hlt1) (Nat.le_of_lt HKa7.out.lt))
               have HI8 := hid (HI7.out.below (hb5.done (Below.refl w.heap.size w7) (at_ge hlt1) (Nat.le_of_lt HKa7.out.lt)))
               clear hb5 hk5)
            | ((with_reducible refine wpList_put61 { t with d2 := 0, l2 := ⟨none, 0, 0⟩, r0 := 0, r1 := 0, r2 := 0, r3 := 0 } { t with d2 := 0, l2 := ⟨none, 0, 0⟩, r0 := 0, r1 := 0, r2 := 0, r3 := 0, minted := 0 } gb 14 (.int .i64 0) [.int .i64 0] ?_ ?_ HKb6.out ?_ ?_ ?_ ?_ ?_ ?_)
               · exact rfl
               · exact rfl
               · exact rfl
               · exact size3
               · exact Nat.le_of_ble_eq_true rfl
               · exact one_of rfl
               · exact rfl
               intro w7 hb5 hk5
               have HKb7 := hid hk5
               have HKa7 := hid (hb5.blk HKa6.out (at_ne hlt1))
               have HB7 := hid (hb5.done HB6.out (at_ge hlt1) (Nat.le_of_lt HKa6.out.lt))
               have HI7 := hid (HI6.out.below (hb5.done (Below.refl w.heap.size w6) (at_ge hlt1) (Nat.le_of_lt HKa6.out.lt)))
               clear hb5 hk5)
            | ((with_reducible refine wpList_put61 { t with d2 := 0, l2 := ⟨none, 0, 0⟩ } { t with d2 := 0, l2 := ⟨none, 0, 0⟩, r0 := 0, r1 := 0, r2 := 0, r3 := 0 } gb 10 (.agg #[.int .u64 0, .int .u64 0, .int .u64 0, .int .u64 0]) [.int .u64 0, .int .u64 0, .int .u64 0, .int .u64 0] ?_ ?_ HKb5.out ?_ ?_ ?_ ?_ ?_ ?_)
               · exact rfl
               · exact rfl
               · exact rfl
               · exact size58
               · exact Nat.le_of_ble_eq_true rfl
               · exact one_of rfl
               · exact rfl
               intro w6 hb5 hk5
               have HKb6 := hid hk5
               have HKa6 := hid (hb5.blk HKa5.out (at_ne hlt1))
               have HB6 := hid (hb5.done HB5.out (at_ge hlt1) (Nat.le_of_lt HKa5.out.lt))
               have HI6 := hid (HI5.out.below (hb5.done (Below.refl w.heap.size w5) (at_ge hlt1) (Nat.le_of_lt HKa5.out.lt)))
               clear hb5 hk5)
            | ((with_reducible refine wpList_put61 t { t with d2 := 0, l2 := ⟨none, 0, 0⟩ } gb 4 (.agg #[.int .i64 0, .slice none 0 0]) [.int .i64 0, .slice none 0 0] ?_ ?_ HKb4.out ?_ ?_ ?_ ?_ ?_ ?_)
               · exact rfl
               · exact rfl
               · exact rfl
               · exact size26
               · exact Nat.le_of_ble_eq_true rfl
               · exact one_label _ _ _ _
               · exact rfl
               intro w5 hb5 hk5
               have HKb5 := hid hk5
               have HKa5 := hid (hb5.blk HKa4.out (at_ne hlt1))
               have HB5 := hid (hb5.done HB4.out (at_ge hlt1) (Nat.le_of_lt HKa4.out.lt))
               have HI5 := hid (HI4.out.below (hb5.done (Below.refl w.heap.size W4) (at_ge hlt1) (Nat.le_of_lt HKa4.out.lt)))
               clear hb5 hk5)
            | (refine wp_list_told 18 18 nil_ rfl (by decide) ?_))
          have HF : Hid (∀ W, But nil_ w9 W → _) := fun W hW => Blk.frontk_2 HK.out (hW.blk HKa9.out (fun h => h))
          try simp only [List.take_succ_cons, List.take_zero, List.drop_succ_cons, List.drop_zero]
          iterate 3 (refine told_val (v := ?_) (fun _ => rfl) (fun vs W hW => ?_) ?_; rotate_left; (focus (have hf := HF.out W hW; clear hW; go_simp; exact loose_val)); simp only [Act.put, List.setIfInBounds_toArray, List.set_cons_zero, List.set_cons_succ, List.nil_append, List.cons_append, Nat.reduceAdd, Leaves.at])
          refine told_val (v := .bool d) (hw := fun _ => rfl) (hr := fun vs W hW => by rw [HD.out]; clear hW; go_simp; exact loose_val) ?_
          simp only [Act.put, List.setIfInBounds_toArray, List.set_cons_zero, List.set_cons_succ, List.nil_append, List.cons_append, Nat.reduceAdd, Leaves.at]
          repeat (refine told_val (v := ?_) (fun _ => rfl) (fun vs W hW => ?_) ?_; rotate_left; (focus (have hf := HF.out W hW; clear hW; go_simp; exact loose_val)); simp only [Act.put, List.setIfInBounds_toArray, List.set_cons_zero, List.set_cons_succ, List.nil_append, List.cons_append, Nat.reduceAdd, Leaves.at])
          refine told_maybe (b := d) (v := .agg (thC (strip2 t))) (fun _ => Bool.casesOn d rfl rfl) (fun hb vs W hW => loose_load61 rfl rfl (hW.blk HKb9.out (fun h => h))) ?_
          simp only [Act.put, List.setIfInBounds_toArray, List.set_cons_zero, List.set_cons_succ, List.nil_append, List.cons_append, Nat.reduceAdd, Leaves.at]
          iterate 8 (refine told_maybe (b := d) (v := ?_) (fun _ => Bool.casesOn d rfl rfl) (fun hb vs W hW => ?_) ?_; rotate_left; (focus (have hf := HF.out W hW; clear hW; (try simp only [hb, cond_true, cond_false]); go_simp; exact loose_val)); simp only [Act.put, List.setIfInBounds_toArray, List.set_cons_zero, List.set_cons_succ, List.nil_append, List.cons_append, Nat.reduceAdd, Leaves.at])
          refine told_maybe (b := d) (v := .agg (thC (bare0 t))) (fun _ => Bool.casesOn d rfl rfl) (fun hb vs W hW => ?_) ?_
          · subst hb; exact loose_mk61 t rfl rfl (by rw [HK.out]; rfl) rfl rfl
          simp only [Act.put, List.setIfInBounds_toArray, List.set_cons_zero, List.set_cons_succ, List.nil_append, List.cons_append, Nat.reduceAdd, Leaves.at]
          refine told_maybe (b := d) (v := .bool s) (fun _ => Bool.casesOn d rfl rfl) (fun hb vs W hW => ?_) ?_
          · try simp only [hb, cond_true, cond_false]
            go_simp
            exact loose_call (HS.out W (((HI9.out.at_ (Nat.le_of_lt HKa9.out.lt))).since_ hW))
          simp only [Act.put, List.setIfInBounds_toArray, List.set_cons_zero, List.set_cons_succ, List.nil_append, List.cons_append, Nat.reduceAdd, Leaves.at]
          refine told_val (v := .bool (d && s)) (hw := fun _ => rfl) (hr := fun vs W hW => by clear hW; cases d <;> (go_simp; exact loose_val)) ?_
          simp only [Act.put, List.setIfInBounds_toArray, List.set_cons_zero, List.set_cons_succ, List.nil_append, List.cons_append, Nat.reduceAdd, Leaves.at]
          repeat (refine told_val (v := ?_) (fun _ => rfl) (fun vs W hW => ?_) ?_; rotate_left; (focus (have hf := HF.out W hW; clear hW; go_simp; exact loose_val)); simp only [Act.put, List.setIfInBounds_toArray, List.set_cons_zero, List.set_cons_succ, List.nil_append, List.cons_append, Nat.reduceAdd, Leaves.at])
          refine told_nil ?_
          intro vs W10 hW10 hok hap
          clear hap
          dsimp only
          have HB10 := hid (HB9.out.trans (since_below hW10 HB9.out.size))
          clear hok hW10 HF
          go_wp2_with fail
          go_ret
          exact ⟨by rw [HE.out]; rfl, HB10.out⟩
end Go.Proofs.Ytndohmimcbmhdaa

/- The document's Right of a thing of kind 3. -/
set_option linter.unusedVariables false
set_option linter.unusedSimpArgs false
namespace Go.Proofs.Ytndohmimcbmhdaa
open Go.RowKit Go.Sort

theorem Blk.frontk_3 {w : World} {g : Nat} {t : Th} (hk : t.kind = 3) (h : Blk w g 61 (thC t)) : w.cell? ⟨g, 0, none⟩ = some (.int .u64 t.id) ∧ w.cell? ⟨g, 1, none⟩ = some (.int .i64 3) ∧ w.cell? ⟨g, 2, none⟩ = some (.int .i64 t.d1) ∧ w.cell? ⟨g, 3, none⟩ = some (.slice t.l1.a t.l1.n t.l1.c) ∧ w.cell? ⟨g, 4, none⟩ = some (.int .i64 t.d2) ∧ w.cell? ⟨g, 5, none⟩ = some (.slice t.l2.a t.l2.n t.l2.c) ∧ w.cell? ⟨g, 6, none⟩ = some (.int .i64 t.quota) := by
  obtain ⟨a0, a1, a2, a3, a4, a5, a6, _⟩ := Blk.front h
  rw [hk] at a1
  exact ⟨a0, a1, a2, a3, a4, a5, a6⟩
set_option maxHeartbeats 16000000 in
set_option maxRecDepth 100000 in
theorem ref71_3 (w : World) (t : Th) (p : Tl) (h : ThAt w t p) (hr : ThR t) (hk : t.kind = 3) : Calls Try.prog 71 #[.agg (thC t)] w fun e w' => e = .returned (.bool (rref_3 t p)) ∧ Below w.heap.size w w' := by
  have mixed : Try.prog.follows .mixedOrders = true := by kernel_rfl
  have HB : Hid (Below w.heap.size w (w.alloc (.cells (thC t) 61))) := (Below.refl _ w).alloc (Nat.le_refl _) _
  have HP : Hid (Blk (w.alloc (.cells (thC t) 61)) w.heap.size 61 (thC t)) := Blk.new w 61 _
  have H := hid (ThAt.below h HB.out)
  have HI := hid (ThAt.in_ h HB.out)
  have HR := hid hr
  have HK := hid hk
  obtain ⟨n, hn⟩ : ∃ z, z = namedB t.id := ⟨_, rfl⟩
  obtain ⟨r, hrr⟩ : ∃ z, z = rightB t.d1 p.l1 := ⟨_, rfl⟩
  obtain ⟨m, hm⟩ : ∃ z, z = (pureB t.d2 p.l2 && isCanon t.value) := ⟨_, rfl⟩
  obtain ⟨d, hd⟩ : ∃ z, z = (t.quota == 1) := ⟨_, rfl⟩
  obtain ⟨s, hs⟩ : ∃ z, z = sameT (strip3 t) (stl2 p) (bare0 t) (bl0 p) := ⟨_, rfl⟩
  obtain ⟨c1, hc1⟩ : ∃ z, z = !n := ⟨_, rfl⟩
  obtain ⟨c4, hc4⟩ : ∃ z, z = (c1 || !r) := ⟨_, rfl⟩
  obtain ⟨c5, hc5⟩ : ∃ z, z = c4 := ⟨_, rfl⟩
  have HE : Hid (rref_3 t p = (!c5 && (m && (d && s)))) := by
    show _ = _
    unfold rref_3 front71
    rw [hc5, hc4, hc1, ← hn, ← hrr, ← hm, ← hd, ← hs]
    cases n <;> cases r <;> rfl
  have HN : Hid (∀ W, Calls Try.prog 116 #[.int .u64 t.id] W fun e w' => e = .returned (.bool n) ∧ W = w') := fun W => by rw [hn]; exact named116 W _
  have HR1 : Hid (∀ W, But nil_ (w.alloc (.cells (thC t) 61)) W → Calls Try.prog 52 #[.agg #[.int .i64 t.d1, .slice t.l1.a t.l1.n t.l1.c]] W fun e w' => e = .returned (.bool r) ∧ Below W.heap.size W w') := fun W hW => by rw [hrr]; exact right52 W _ _ _ _ _ (H.out.since_ hW).c1
  have HS : Hid (∀ W, ThAt W t p → Calls Try.prog 75 #[.agg (thC (strip3 t)), .agg (thC (bare0 t))] W fun e w' => e = .returned (.bool s) ∧ Below W.heap.size W w') := fun W hW => by rw [hs]; exact same75 W _ _ _ _ hW.s3 hW.b0
  have HC1 := hid hc1
  have HC4 := hid hc4
  have HC5 := hid hc5
  have HD := hid hd
  have HM := hid hm
  clear hn hrr hm hd hs hc1 hc4 hc5 h hr hk
  go_enter Try.func71, Try.ntmps71
  go_wp2_with (refine wp_list_told 26 26 nil_ rfl (by decide) ?_)
  generalize w.alloc (.cells (thC t) 61) = wa at *
  have HF : Hid (∀ W, But nil_ wa W → _) := fun W hW => Blk.frontk_3 HK.out (hW.blk HP.out (fun h => h))
  try simp only [List.take_succ_cons, List.take_zero, List.drop_succ_cons, List.drop_zero]
  repeat (refine told_val (v := ?_) (fun _ => rfl) (fun vs W hW => ?_) ?_; rotate_left; (focus (have hf := HF.out W hW; clear hW; go_simp; exact loose_val)); simp only [Act.put, List.setIfInBounds_toArray, List.set_cons_zero, List.set_cons_succ, List.nil_append, List.cons_append, Nat.reduceAdd, Leaves.at])
  refine told_val (v := .bool n) (fun _ => rfl) (fun vs W hW => ?_) ?_
  · go_simp
    exact loose_same (HN.out W)
  simp only [Act.put, List.setIfInBounds_toArray, List.set_cons_zero, List.set_cons_succ, List.nil_append, List.cons_append, Nat.reduceAdd, Leaves.at]
  refine told_val (v := .bool c1) (hw := fun _ => rfl) (hr := fun vs W hW => by rw [HC1.out]; clear hW; go_simp; exact loose_val) ?_
  simp only [Act.put, List.setIfInBounds_toArray, List.set_cons_zero, List.set_cons_succ, List.nil_append, List.cons_append, Nat.reduceAdd, Leaves.at]
  repeat (refine told_val (v := ?_) (fun _ => rfl) (fun vs W hW => ?_) ?_; rotate_left; (focus (have hf := HF.out W hW; clear hW; go_simp; exact loose_val)); simp only [Act.put, List.setIfInBounds_toArray, List.set_cons_zero, List.set_cons_succ, List.nil_append, List.cons_append, Nat.reduceAdd, Leaves.at])
  repeat (refine told_not (b := c1) (v := ?_) (fun _ => Bool.casesOn c1 rfl rfl) (fun hb vs W hW => ?_) ?_; rotate_left; (focus (have hf := HF.out W hW; clear hW; (try simp only [hb, cond_true, cond_false]); go_simp; exact loose_val)); simp only [Act.put, List.setIfInBounds_toArray, List.set_cons_zero, List.set_cons_succ, List.nil_append, List.cons_append, Nat.reduceAdd, Leaves.at])
  refine told_not (b := c1) (v := .bool r) (fun _ => Bool.casesOn c1 rfl rfl) (fun hb vs W hW => ?_) ?_
  · try simp only [hb, cond_true, cond_false]
    go_simp
    exact loose_call (HR1.out W hW)
  simp only [Act.put, List.setIfInBounds_toArray, List.set_cons_zero, List.set_cons_succ, List.nil_append, List.cons_append, Nat.reduceAdd, Leaves.at]
  repeat (refine told_not (b := c1) (v := ?_) (fun _ => Bool.casesOn c1 rfl rfl) (fun hb vs W hW => ?_) ?_; rotate_left; (focus (have hf := HF.out W hW; clear hW; (try simp only [hb, cond_true, cond_false]); go_simp; exact loose_val)); simp only [Act.put, List.setIfInBounds_toArray, List.set_cons_zero, List.set_cons_succ, List.nil_append, List.cons_append, Nat.reduceAdd, Leaves.at])
  refine told_val (v := .bool c4) (hw := fun _ => rfl) (hr := fun vs W hW => by rw [HC4.out]; clear hW; cases c1 <;> (go_simp; exact loose_val)) ?_
  simp only [Act.put, List.setIfInBounds_toArray, List.set_cons_zero, List.set_cons_succ, List.nil_append, List.cons_append, Nat.reduceAdd, Leaves.at]
  repeat (refine told_val (v := ?_) (fun _ => rfl) (fun vs W hW => ?_) ?_; rotate_left; (focus (have hf := HF.out W hW; clear hW; go_simp; exact loose_val)); simp only [Act.put, List.setIfInBounds_toArray, List.set_cons_zero, List.set_cons_succ, List.nil_append, List.cons_append, Nat.reduceAdd, Leaves.at])
  iterate 9 (refine told_not (b := c4) (v := ?_) (fun _ => Bool.casesOn c4 rfl rfl) (fun hb vs W hW => ?_) ?_; rotate_left; (focus (have hf := HF.out W hW; clear hW; (try simp only [hb, cond_true, cond_false]); go_simp; exact loose_val)); simp only [Act.put, List.setIfInBounds_toArray, List.set_cons_zero, List.set_cons_succ, List.nil_append, List.cons_append, Nat.reduceAdd, Leaves.at])
  refine told_off (fun _ => by cases c4 <;> rfl) ?_
  simp only [Act.put, List.setIfInBounds_toArray, List.set_cons_zero, List.set_cons_succ, List.nil_append, List.cons_append, Nat.reduceAdd, Leaves.at]
  refine told_off (fun _ => by cases c4 <;> rfl) ?_
  simp only [Act.put, List.setIfInBounds_toArray, List.set_cons_zero, List.set_cons_succ, List.nil_append, List.cons_append, Nat.reduceAdd, Leaves.at]
  refine told_off (fun _ => by cases c4 <;> rfl) ?_
  simp only [Act.put, List.setIfInBounds_toArray, List.set_cons_zero, List.set_cons_succ, List.nil_append, List.cons_append, Nat.reduceAdd, Leaves.at]
  refine told_off (fun _ => by cases c4 <;> rfl) ?_
  simp only [Act.put, List.setIfInBounds_toArray, List.set_cons_zero, List.set_cons_succ, List.nil_append, List.cons_append, Nat.reduceAdd, Leaves.at]
  refine told_not (b := c4) (v := .bool false) (fun _ => Bool.casesOn c4 rfl rfl) (fun hb vs W hW => ?_) ?_
  · clear hW; subst hb; go_simp; exact loose_val
  simp only [Act.put, List.setIfInBounds_toArray, List.set_cons_zero, List.set_cons_succ, List.nil_append, List.cons_append, Nat.reduceAdd, Leaves.at]
  refine told_val (v := .bool c5) (hw := fun _ => rfl) (hr := fun vs W hW => by rw [HC5.out]; clear hW; cases c4 <;> (go_simp; exact loose_val)) ?_
  simp only [Act.put, List.setIfInBounds_toArray, List.set_cons_zero, List.set_cons_succ, List.nil_append, List.cons_append, Nat.reduceAdd, Leaves.at]
  refine told_nil ?_
  intro vs W1 hW1 hok hap
  clear hap
  dsimp only
  have HW1 := hid hW1
  have HB1 := hid (HB.out.trans (since_below hW1 HB.out.size))
  have hlt1 : w.heap.size < W1.heap.size := Nat.lt_of_lt_of_le HP.out.lt hW1.size
  have HX1 := hid (hW1.blk HP.out (fun h => h))
  clear hok hW1 HF
  cases c5 with
  | true =>
    go_wp2_with fail
    go_ret
    exact ⟨by rw [HE.out]; rfl, HB1.out⟩
  | false =>
    go_wp2_with (first
      | (with_reducible refine wpList_load61 t w.heap.size ?_ HX1.out ?_
         exact rfl)
      | (with_reducible refine wpList_new61 t ?_ ?_ ?_
         · exact rfl
         · exact rfl
         have HB2 := hid (HB1.out.alloc (Nat.le_of_lt hlt1) (.cells (thC t) 61))
         have HI2 : Hid (ThIn (W1.alloc (.cells (thC t) 61)) w.heap.size t p) := (HI.out.below ((since_below HW1.out (Nat.le_of_lt HP.out.lt)).alloc (Nat.le_of_lt hlt1) _))
         have HKa : Hid (Blk (W1.alloc (.cells (thC t) 61)) w.heap.size 61 (thC t)) := HX1.out.alloc _
         have HKb : Hid (Blk (W1.alloc (.cells (thC t) 61)) W1.heap.size 61 (thC t)) := Blk.new W1 61 _
         have HKc : Hid (Blk (W1.alloc (.cells (thC t) 61)) w.heap.size 61 t.cells.toArray) := HKa.out
         clear HX1 HB1 HW1 H HI HB HP HR1
         generalize W1.alloc (.cells (thC t) 61) = wb at *
         generalize W1.heap.size = gb at *
         have f1 : wb.cell? ⟨w.heap.size, 1, none⟩ = some (.int .i64 3) := (Blk.frontk_3 HK.out HKa.out).2.1)
      | (fail))
    have HF : Hid (∀ W, But nil_ wb W → ((W.cell? ⟨w.heap.size, 4, none⟩ = some (.int .i64 t.d2) ∧ W.cell? ⟨w.heap.size, 5, none⟩ = some (.slice t.l2.a t.l2.n t.l2.c)) ∧ W.cell? ⟨w.heap.size, 17, none⟩ = some (.int .u64 t.value))) := fun W hW => ⟨(Blk.cells26 (hW.blk HKa.out (fun h => h))).2.1, (Blk.cell (hW.blk HKa.out (fun h => h)) 17).trans rfl⟩
    have hlb : w.heap.size < wb.heap.size := HKa.out.lt
    obtain ⟨u, hu⟩ : ∃ z, z = pureB t.d2 p.l2 := ⟨_, rfl⟩
    obtain ⟨v, hv⟩ : ∃ z, z = isCanon t.value := ⟨_, rfl⟩
    have HU : Hid (∀ W, But nil_ wb W → Calls Try.prog 118 #[.agg #[.int .i64 t.d2, .slice t.l2.a t.l2.n t.l2.c]] W fun e w' => e = .returned (.bool u) ∧ Below W.heap.size W w') := fun W hW => by rw [hu]; exact clean118 W _ _ _ _ _ ((HI2.out.at_ (Nat.le_of_lt hlb)).since_ hW).c2
    have HCN : Hid (∀ W, Calls Try.prog 117 #[.int .u64 t.value] W fun e w' => e = .returned (.int .u64 (canon t.value)) ∧ W = w') := fun W => canon117 t.value W HR.out.value.1 (by have := HR.out.value.2; omega)
    obtain ⟨c7, hc7⟩ : ∃ z, z = !u := ⟨_, rfl⟩
    have HC7 := hid hc7
    obtain ⟨c8, hc8⟩ : ∃ z, z = (canon t.value != t.value) := ⟨_, rfl⟩
    have HC8 := hid hc8
    have HMQ : Hid (m = !(c7 || c8)) := by
      show _ = _
      rw [HM.out, hc7, hc8, ← hu]
      unfold isCanon
      cases u
      · rfl
      · show decide (canon t.value = t.value) = !(false || (canon t.value != t.value))
        rw [Bool.false_or, Bool.eq_iff_iff]
        simp
    clear hu hv hc7 hc8
    refine wp_region_told 12 nil_ mixed (by kernel_rfl) ?_
    simp only [List.take_succ_cons, List.take_zero, List.drop_succ_cons, List.drop_zero]
    repeat (refine told_val (v := ?_) (fun _ => rfl) (fun vs W hW => ?_) ?_; rotate_left; (focus (have hf := HF.out W hW; clear hW; go_simp; exact loose_val)); simp only [Act.put, List.setIfInBounds_toArray, List.set_cons_zero, List.set_cons_succ, List.nil_append, List.cons_append, Nat.reduceAdd, Leaves.at])
    refine told_val (v := .bool u) (fun _ => rfl) (fun vs W hW => ?_) ?_
    · go_simp
      exact loose_call (HU.out W hW)
    simp only [Act.put, List.setIfInBounds_toArray, List.set_cons_zero, List.set_cons_succ, List.nil_append, List.cons_append, Nat.reduceAdd, Leaves.at]
    refine told_val (v := .bool c7) (hw := fun _ => rfl) (hr := fun vs W hW => by rw [HC7.out]; clear hW; go_simp; exact loose_val) ?_
    simp only [Act.put, List.setIfInBounds_toArray, List.set_cons_zero, List.set_cons_succ, List.nil_append, List.cons_append, Nat.reduceAdd, Leaves.at]
    repeat (refine told_val (v := ?_) (fun _ => rfl) (fun vs W hW => ?_) ?_; rotate_left; (focus (have hf := HF.out W hW; clear hW; go_simp; exact loose_val)); simp only [Act.put, List.setIfInBounds_toArray, List.set_cons_zero, List.set_cons_succ, List.nil_append, List.cons_append, Nat.reduceAdd, Leaves.at])
    iterate 2 (refine told_not (b := c7) (v := ?_) (fun _ => Bool.casesOn c7 rfl rfl) (fun hb vs W hW => ?_) ?_; rotate_left; (focus (have hf := HF.out W hW; clear hW; (try simp only [hb, cond_true, cond_false]); go_simp; exact loose_val)); simp only [Act.put, List.setIfInBounds_toArray, List.set_cons_zero, List.set_cons_succ, List.nil_append, List.cons_append, Nat.reduceAdd, Leaves.at])
    refine told_not (b := c7) (v := (.int .u64 (canon t.value))) (fun _ => Bool.casesOn c7 rfl rfl) (fun hb vs W hW => ?_) ?_
    · try simp only [hb, cond_true, cond_false]
      go_simp
      exact loose_call ((HCN.out W).mono fun e w' h => ⟨h.1, h.2 ▸ Below.refl _ _⟩)
    simp only [Act.put, List.setIfInBounds_toArray, List.set_cons_zero, List.set_cons_succ, List.nil_append, List.cons_append, Nat.reduceAdd, Leaves.at]
    iterate 2 (refine told_not (b := c7) (v := ?_) (fun _ => Bool.casesOn c7 rfl rfl) (fun hb vs W hW => ?_) ?_; rotate_left; (focus (have hf := HF.out W hW; clear hW; (try simp only [hb, cond_true, cond_false]); go_simp; exact loose_val)); simp only [Act.put, List.setIfInBounds_toArray, List.set_cons_zero, List.set_cons_succ, List.nil_append, List.cons_append, Nat.reduceAdd, Leaves.at])
    refine told_not (b := c7) (v := .bool c8) (fun _ => Bool.casesOn c7 rfl rfl) (fun hb vs W hW => by rw [HC8.out]; clear hW; subst hb; go_simp; exact loose_val) ?_
    simp only [Act.put, List.setIfInBounds_toArray, List.set_cons_zero, List.set_cons_succ, List.nil_append, List.cons_append, Nat.reduceAdd, Leaves.at]
    refine told_val (v := .bool (c7 || c8)) (hw := fun _ => rfl) (hr := fun vs W hW => by clear hW; cases c7 <;> (go_simp; exact loose_val)) ?_
    simp only [Act.put, List.setIfInBounds_toArray, List.set_cons_zero, List.set_cons_succ, List.nil_append, List.cons_append, Nat.reduceAdd, Leaves.at]
    refine told_nil ?_
    intro vs W4 hW4 hok hap
    clear hap
    dsimp only
    have HKa4 := hid (hW4.blk HKa.out (fun h => h))
    have HKb4 := hid (hW4.blk HKb.out (fun h => h))
    have HB4 := hid (HB2.out.trans (since_below hW4 HB2.out.size))
    have HI4 := hid (HI2.out.below (since_below hW4 (Nat.le_of_lt HKa.out.lt)))
    clear hok hW4 HF HU HCN f1
    generalize hq : (c7 || c8) = q at *
    clear hq
    cases q with
    | true =>
      obtain rfl : m = false := HMQ.out
      go_wp2_with fail
      go_ret
      exact ⟨by rw [HE.out]; rfl, HB4.out⟩
    | false =>
      obtain rfl : m = true := HMQ.out
      go_wp2_with (first
        | ((with_reducible refine wpList_put61 { t with d2 := 0, l2 := ⟨none, 0, 0⟩ } (strip3 t) gb 17 (.int .u64 0) [.int .u64 0] ?_ ?_ HKb5.out ?_ ?_ ?_ ?_ ?_ ?_)
           · exact rfl
           · exact rfl
           · exact rfl
           · exact size24'
           · exact Nat.le_of_ble_eq_true rfl
           · exact one_of rfl
           · exact rfl
           intro w6 hb5 hk5
           have HKb6 := hid hk5
           have HKa6 := hid (hb5.blk HKa5.out (at_ne hlt1))
           have HB6 := hid (hb5.done HB5.out (at_ge hlt1) (Nat.le_of_lt HKa5.out.lt))
           have HI6 := hid (HI5.out.below (hb5.done (Below.refl w.heap.size w5) (at_ge hlt1) (Nat.le_of_lt HKa5.out.lt)))
           clear hb5 hk5)
        | ((with_reducible refine wpList_put61 t { t with d2 := 0, l2 := ⟨none, 0, 0⟩ } gb 4 (.agg #[.int .i64 0, .slice none 0 0]) [.int .i64 0, .slice none 0 0] ?_ ?_ HKb4.out ?_ ?_ ?_ ?_ ?_ ?_)
           · exact rfl
           · exact rfl
           · exact rfl
           · exact size26
           · exact Nat.le_of_ble_eq_true rfl
           · exact one_label _ _ _ _
           · exact rfl
           intro w5 hb5 hk5
           have HKb5 := hid hk5
           have HKa5 := hid (hb5.blk HKa4.out (at_ne hlt1))
           have HB5 := hid (hb5.done HB4.out (at_ge hlt1) (Nat.le_of_lt HKa4.out.lt))
           have HI5 := hid (HI4.out.below (hb5.done (Below.refl w.heap.size W4) (at_ge hlt1) (Nat.le_of_lt HKa4.out.lt)))
           clear hb5 hk5)
        | (refine wp_list_told 18 18 nil_ rfl (by decide) ?_))
      have HF : Hid (∀ W, But nil_ w6 W → _) := fun W hW => Blk.frontk_3 HK.out (hW.blk HKa6.out (fun h => h))
      try simp only [List.take_succ_cons, List.take_zero, List.drop_succ_cons, List.drop_zero]
      iterate 3 (refine told_val (v := ?_) (fun _ => rfl) (fun vs W hW => ?_) ?_; rotate_left; (focus (have hf := HF.out W hW; clear hW; go_simp; exact loose_val)); simp only [Act.put, List.setIfInBounds_toArray, List.set_cons_zero, List.set_cons_succ, List.nil_append, List.cons_append, Nat.reduceAdd, Leaves.at])
      refine told_val (v := .bool d) (hw := fun _ => rfl) (hr := fun vs W hW => by rw [HD.out]; clear hW; go_simp; exact loose_val) ?_
      simp only [Act.put, List.setIfInBounds_toArray, List.set_cons_zero, List.set_cons_succ, List.nil_append, List.cons_append, Nat.reduceAdd, Leaves.at]
      repeat (refine told_val (v := ?_) (fun _ => rfl) (fun vs W hW => ?_) ?_; rotate_left; (focus (have hf := HF.out W hW; clear hW; go_simp; exact loose_val)); simp only [Act.put, List.setIfInBounds_toArray, List.set_cons_zero, List.set_cons_succ, List.nil_append, List.cons_append, Nat.reduceAdd, Leaves.at])
      refine told_maybe (b := d) (v := .agg (thC (strip3 t))) (fun _ => Bool.casesOn d rfl rfl) (fun hb vs W hW => loose_load61 rfl rfl (hW.blk HKb6.out (fun h => h))) ?_
      simp only [Act.put, List.setIfInBounds_toArray, List.set_cons_zero, List.set_cons_succ, List.nil_append, List.cons_append, Nat.reduceAdd, Leaves.at]
      iterate 8 (refine told_maybe (b := d) (v := ?_) (fun _ => Bool.casesOn d rfl rfl) (fun hb vs W hW => ?_) ?_; rotate_left; (focus (have hf := HF.out W hW; clear hW; (try simp only [hb, cond_true, cond_false]); go_simp; exact loose_val)); simp only [Act.put, List.setIfInBounds_toArray, List.set_cons_zero, List.set_cons_succ, List.nil_append, List.cons_append, Nat.reduceAdd, Leaves.at])
      refine told_maybe (b := d) (v := .agg (thC (bare0 t))) (fun _ => Bool.casesOn d rfl rfl) (fun hb vs W hW => ?_) ?_
      · subst hb; exact loose_mk61 t rfl rfl (by rw [HK.out]; rfl) rfl rfl
      simp only [Act.put, List.setIfInBounds_toArray, List.set_cons_zero, List.set_cons_succ, List.nil_append, List.cons_append, Nat.reduceAdd, Leaves.at]
      refine told_maybe (b := d) (v := .bool s) (fun _ => Bool.casesOn d rfl rfl) (fun hb vs W hW => ?_) ?_
      · try simp only [hb, cond_true, cond_false]
        go_simp
        exact loose_call (HS.out W (((HI6.out.at_ (Nat.le_of_lt HKa6.out.lt))).since_ hW))
      simp only [Act.put, List.setIfInBounds_toArray, List.set_cons_zero, List.set_cons_succ, List.nil_append, List.cons_append, Nat.reduceAdd, Leaves.at]
      refine told_val (v := .bool (d && s)) (hw := fun _ => rfl) (hr := fun vs W hW => by clear hW; cases d <;> (go_simp; exact loose_val)) ?_
      simp only [Act.put, List.setIfInBounds_toArray, List.set_cons_zero, List.set_cons_succ, List.nil_append, List.cons_append, Nat.reduceAdd, Leaves.at]
      repeat (refine told_val (v := ?_) (fun _ => rfl) (fun vs W hW => ?_) ?_; rotate_left; (focus (have hf := HF.out W hW; clear hW; go_simp; exact loose_val)); simp only [Act.put, List.setIfInBounds_toArray, List.set_cons_zero, List.set_cons_succ, List.nil_append, List.cons_append, Nat.reduceAdd, Leaves.at])
      refine told_nil ?_
      intro vs W9 hW9 hok hap
      clear hap
      dsimp only
      have HB9 := hid (HB6.out.trans (since_below hW9 HB6.out.size))
      clear hok hW9 HF
      go_wp2_with fail
      go_ret
      exact ⟨by rw [HE.out]; rfl, HB9.out⟩
end Go.Proofs.Ytndohmimcbmhdaa

/- Threads and gates that can be: through a gate, with a minted category. -/
set_option linter.unusedVariables false
set_option linter.unusedSimpArgs false
namespace Go.Proofs.Ytndohmimcbmhdaa
open Go.RowKit Go.Sort

/-- Nothing that a thread doesn't have. -/
structure Bare2 (t : Th) (p : Tl) : Prop where
  next : t.next = 0
  value : t.value = 0
  s0 : t.s0 = 0
  s1 : t.s1 = 0
  s2 : t.s2 = 0
  s3 : t.s3 = 0
  s4 : t.s4 = 0
  s5 : t.s5 = 0
  s6 : t.s6 = 0
  s7 : t.s7 = 0
  links : p.links = []
  data : p.data = []
theorem bare2_of {t : Th} {p : Tl} (h : sameT (strip2 t) (stl2 p) (bare0 t) (bl0 p) = true) : Bare2 t p := by
  unfold sameT at h
  simp only [Bool.and_eq_true] at h
  obtain ⟨hn, _, he, hl, hd⟩ := h
  unfold eqB at hl
  have hl := of_decide_eq_true hl
  have hd := of_decide_eq_true hd
  simp only [numsB, strip2, bare0, zeroTh, Bool.and_eq_true, beq_iff_eq] at hn
  obtain ⟨_, _, _, n1, _, _, _, _, n2, ⟨n3, n4⟩, ⟨n5, n6⟩, ⟨n7, n8⟩, n9, n10⟩ := hn
  exact ⟨n1, n2, n3, n4, n5, n6, n7, n8, n9, n10, hl, hd⟩
theorem bare2_to {t : Th} {p : Tl} (h : Bare2 t p) : sameT (strip2 t) (stl2 p) (bare0 t) (bl0 p) = true := by
  obtain ⟨h1, h2, h3, h4, h5, h6, h7, h8, h9, h10, h11, h12⟩ := h
  simp [sameT, numsB, exactB, eqB, strip2, stl2, bare0, bl0, zeroTh, *]
structure Right2 (t : Th) (p : Tl) : Prop where
  named : namedB t.id = true
  right : rightB t.d1 p.l1 = true
  regs : (regsL t).any notCanon = false
  clean : pureB t.d2 p.l2 = true
  age : ageB t = true
  quota : (t.quota == 1) = true
  bare : Bare2 t p
theorem right2_of {t : Th} {p : Tl} (h : rref_2 t p = true) : Right2 t p := by
  unfold rref_2 front71 at h
  simp only [Bool.and_eq_true, Bool.not_eq_true'] at h
  obtain ⟨⟨h1, h2⟩, h3, ⟨h4, h5⟩, h6, h7⟩ := h
  exact ⟨h1, h2, h3, h4, h5, h6, bare2_of h7⟩
theorem Right2.to {t : Th} {p : Tl} (h : Right2 t p) : rref_2 t p = true := by
  unfold rref_2 front71
  rw [h.named, h.right, h.regs, h.clean, h.age, h.quota, bare2_to h.bare]
  rfl
theorem pure_right {d : Int} {cs : List (Int × Int)} (h : pureB d cs = true) : rightB d cs = true := by
  unfold pureB at h
  rw [Bool.and_eq_true] at h
  exact h.1
theorem right_def2 {d : Int} {cs : List (Int × Int)} (h : rightB d cs = true) : 1 ≤ d ∧ d ≤ 4 := by
  unfold rightB at h
  simp only [Bool.and_eq_true, decide_eq_true_eq] at h
  exact ⟨h.1.1, h.1.2.1⟩
theorem right_i64 {d : Int} {cs : List (Int × Int)} (h : rightB d cs = true) : i64R d := by
  have := right_def2 h
  exact ⟨by omega, by omega⟩
/-- What Right says of sizes. -/
theorem Right2.len1 {t : Th} {p : Tl} (h : Right2 t p) : p.l1.length ≤ 6 := right_len h.right
theorem Right2.len2 {t : Th} {p : Tl} (h : Right2 t p) : p.l2.length ≤ 6 := right_len (pure_right h.clean)
structure Right3 (t : Th) (p : Tl) : Prop where
  right : rightB t.d1 p.l1 = true
  clean : pureB t.d2 p.l2 = true
  canon : isCanon t.value = true
theorem right3_of {t : Th} {p : Tl} (h : rref_3 t p = true) : Right3 t p := by
  unfold rref_3 front71 at h
  simp only [Bool.and_eq_true] at h
  obtain ⟨⟨h1, h2⟩, ⟨h4, h5⟩, h6, h7⟩ := h
  exact ⟨h2, h4, h5⟩
theorem Right2.thru {t g : Th} {p q : Tl} {d e : Int} {l r : List (Int × Int)} (h : Right2 t p) (hg : Right3 g q) (hb : thruB t p g q d l e r = true) : Right2 (thruT t g d e) (thruL p l r) := by
  unfold thruB entersB whoB at hb
  simp only [Bool.and_eq_true] at hb
  obtain ⟨⟨⟨h1, h2⟩, _⟩, _⟩ := hb
  refine ⟨h.named, h1, ?_, h2, h.age, h.quota, ⟨h.bare.next, h.bare.value, h.bare.s0, h.bare.s1, h.bare.s2, h.bare.s3, h.bare.s4, h.bare.s5, h.bare.s6, h.bare.s7, h.bare.links, h.bare.data⟩⟩
  have hr := h.regs
  simp only [regsL, List.any_cons, List.any_nil, Bool.or_false, Bool.or_eq_false_iff] at hr ⊢
  refine ⟨?_, hr.2.1, hr.2.2.1, hr.2.2.2⟩
  have := hg.canon
  unfold isCanon at this
  have := of_decide_eq_true this
  show notCanon g.value = false
  unfold notCanon
  simp [this]
theorem thruT_R {t g : Th} {p q : Tl} {d e : Int} {l r : List (Int × Int)} (h : ThR t) (hg : ThR g) (hb : Right2 (thruT t g d e) (thruL p l r)) : ThR (thruT t g d e) :=
  ⟨h.id, h.kind, right_i64 hb.right, right_i64 (pure_right hb.clean), h.quota, h.next, hg.value, h.r1, h.r2, h.r3, h.minted, h.boot, h.value, h.s0, h.s1, h.s2, h.s3, h.s4, h.s5, h.s6, h.s7⟩
/-- Through a gate, as one thing. -/
def thruO (b : Bool) (t g : Th) (d e : Int) : Th := bif b then thruT t g d e else t
def thruP (b : Bool) (p : Tl) (l r : List (Int × Int)) : Tl := bif b then thruL p l r else p
def thruE (b : Bool) : Int := bif b then 0 else 181
theorem thruO_right {t g : Th} {p q : Tl} {d e : Int} {l r : List (Int × Int)} (h : Right2 t p) (hg : Right3 g q) : Right2 (thruO (thruB t p g q d l e r) t g d e) (thruP (thruB t p g q d l e r) p l r) := by
  unfold thruO thruP
  cases hb : thruB t p g q d l e r with
  | false => exact h
  | true => exact h.thru hg hb
theorem thruO_R {t g : Th} {p q : Tl} {d e : Int} {l r : List (Int × Int)} (h : Right2 t p) (hg : Right3 g q) (hr : ThR t) (hgr : ThR g) : ThR (thruO (thruB t p g q d l e r) t g d e) := by
  unfold thruO
  cases hb : thruB t p g q d l e r with
  | false => exact hr
  | true => exact thruT_R (q := q) hr hgr (h.thru hg hb)

/-! ### A category of its own -/
theorem form_mem {d : Int} {cs : List (Int × Int)} {x : Int × Int} (h : x ∈ formL d cs) : ∃ c ∈ cs, c.2 = x.2 := by
  unfold formL at h
  obtain ⟨id, hid, rfl⟩ := List.mem_map.1 h
  have hne := (List.mem_filter.1 hid).2
  simp only [decide_eq_true_eq] at hne
  unfold levelL at hne ⊢
  cases hf : cs.find? (fun c => c.1 == id) with
  | none => rw [hf] at hne; exact absurd rfl hne
  | some c => exact ⟨c, List.mem_of_find?_eq_some hf, rfl⟩
theorem minted_clean {d c : Int} {cs : List (Int × Int)} (h : pureB d cs = true) (hr : rightB d (formL d ((c, 4) :: cs)) = true) : pureB d (formL d ((c, 4) :: cs)) = true := by
  unfold pureB at h ⊢
  rw [Bool.and_eq_true] at h
  rw [hr, Bool.true_and]
  have hn : cs.any starC = false := by simpa using h.2
  rw [Bool.not_eq_true']
  cases hq : (formL d ((c, 4) :: cs)).any starC with
  | false => rfl
  | true =>
    obtain ⟨x, hx, hs⟩ := List.any_eq_true.1 hq
    obtain ⟨y, hy, e⟩ := form_mem hx
    have h0 : x.2 = 0 := by unfold starC at hs; simpa using hs
    rcases List.mem_cons.1 hy with rfl | hy
    · rw [h0] at e; exact absurd (show (4 : Int) = 0 from e) (by decide)
    · have : cs.any starC = true := List.any_eq_true.2 ⟨y, hy, by unfold starC; rw [e, h0]; rfl⟩
      rw [hn] at this; cases this
theorem age_of {t : Th} (h : ageB t = true) : 0 ≤ t.minted ∧ t.minted ≤ 31 ∧ 0 ≤ t.boot ∧ t.boot ≤ 255 := by
  unfold ageB at h
  simp only [Bool.and_eq_true, decide_eq_true_eq] at h
  exact h
theorem mint_right {t : Th} {p : Tl} {boot : Int} (h : Right2 t p) (b0 : 0 ≤ boot) (b1 : boot ≤ 255) : Right2 (mintO t p boot).t (mintO t p boot).p := by
  unfold mintO
  split
  · exact h
  · rename_i hn
    cases hq : (rightB t.d1 (mintL t p boot) && rightB t.d2 (mintC t p boot)) with
    | false => exact h
    | true =>
      rw [Bool.and_eq_true] at hq
      obtain ⟨a1, a2, a3, a4⟩ := age_of h.age
      have hn0 : 0 ≤ mintN t boot := by unfold mintN; split <;> omega
      refine ⟨h.named, hq.1, h.regs, minted_clean h.clean hq.2, ?_, h.quota, ⟨h.bare.next, h.bare.value, h.bare.s0, h.bare.s1, h.bare.s2, h.bare.s3, h.bare.s4, h.bare.s5, h.bare.s6, h.bare.s7, h.bare.links, h.bare.data⟩⟩
      show ageB { t with boot := boot, minted := mintN t boot + 1 } = true
      unfold ageB
      simp only [Bool.and_eq_true, decide_eq_true_eq]
      refine ⟨?_, ?_, b0, b1⟩
      · show 0 ≤ mintN t boot + 1; omega
      · show mintN t boot + 1 ≤ 31; omega
theorem mint_R {t : Th} {p : Tl} {boot : Int} (h : Right2 t p) (hr : ThR t) (b0 : 0 ≤ boot) (b1 : boot ≤ 255) : ThR (mintO t p boot).t := by
  unfold mintO
  split
  · exact hr
  · rename_i hn
    cases hq : (rightB t.d1 (mintL t p boot) && rightB t.d2 (mintC t p boot)) with
    | false => exact hr
    | true =>
      obtain ⟨a1, a2, a3, a4⟩ := age_of h.age
      have hn0 : 0 ≤ mintN t boot := by unfold mintN; split <;> omega
      exact ⟨hr.id, hr.kind, hr.d1, hr.d2, hr.quota, hr.next, hr.r0, hr.r1, hr.r2, hr.r3, ⟨by show _ ≤ mintN t boot + 1; omega, by show mintN t boot + 1 ≤ _; omega⟩, ⟨by show _ ≤ boot; omega, by show boot ≤ _; omega⟩, hr.value, hr.s0, hr.s1, hr.s2, hr.s3, hr.s4, hr.s5, hr.s6, hr.s7⟩
theorem mint_kind {t : Th} {p : Tl} {boot : Int} (h : t.kind = 2) : (mintO t p boot).t.kind = 2 := by
  unfold mintO
  split
  · exact h
  · cases (rightB t.d1 (mintL t p boot) && rightB t.d2 (mintC t p boot)) <;> exact h
theorem right2_minty {w : World} {t : Th} {p : Tl} {boot : Int} (h : Right2 t p) (ha : ThAt w t p) (b0 : 0 ≤ boot) (b1 : boot ≤ 255) : Minty t boot := by
  obtain ⟨a1, a2, a3, a4⟩ := age_of h.age
  have hn := h.named
  unfold namedB at hn
  have hn := of_decide_eq_true hn
  have e1 := ha.c1.len
  have e2 := ha.c2.len
  have e3 := ha.lk.len
  have e4 := ha.dt.len
  have l1 := h.len1
  have l2 := h.len2
  rw [h.bare.links] at e3
  rw [h.bare.data] at e4
  simp only [List.length_nil] at e3 e4
  exact ⟨hn.1, hn.2, b0, b1, a1, a2, by omega, by omega, by omega, by omega⟩
end Go.Proofs.Ytndohmimcbmhdaa
