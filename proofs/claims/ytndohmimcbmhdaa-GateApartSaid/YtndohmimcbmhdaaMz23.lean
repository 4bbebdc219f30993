/- thing.Right of a thing of kind 5. -/
import Derived.Test.YtndohmimcbmhdaaMz22
import Derived.Laws.IdiomStrings

set_option linter.unusedVariables false
set_option linter.unusedSimpArgs false
namespace Go.Proofs.Ytndohmimcbmhdaa
open Go.RowKit Go.Sort

theorem Blk.front_5 {w : World} {g : Nat} {t : Th} (hk : t.kind = 5) (h : Blk w g 61 (thC t)) : w.cell? ⟨g, 0, none⟩ = some (.int .u64 t.id) ∧ w.cell? ⟨g, 1, none⟩ = some (.int .i64 5) ∧ w.cell? ⟨g, 2, none⟩ = some (.int .i64 t.d1) ∧ w.cell? ⟨g, 3, none⟩ = some (.slice t.l1.a t.l1.n t.l1.c) ∧ w.cell? ⟨g, 4, none⟩ = some (.int .i64 t.d2) ∧ w.cell? ⟨g, 5, none⟩ = some (.slice t.l2.a t.l2.n t.l2.c) ∧ w.cell? ⟨g, 6, none⟩ = some (.int .i64 t.quota) ∧ w.cell? ⟨g, 7, none⟩ = some (.int .i64 t.next) := by
  obtain ⟨a0, a1, a2, a3, a4, a5, a6, a7, _⟩ := Blk.front h
  rw [hk] at a1
  exact ⟨a0, a1, a2, a3, a4, a5, a6, a7⟩
def right_5 (t : Th) (p : Tl) : Bool := ((namedB t.id && rightB t.d1 p.l1) && sameT (bare5 t) (bl0 p) t p) && (pureB t.d1 p.l1 && ((t.quota == 1) && (!((slotsL t).any oddSlot))))

set_option maxHeartbeats 8000000 in
set_option maxRecDepth 100000 in
theorem right89_5 (w : World) (t : Th) (p : Tl) (h : ThAt w t p) (hr : ThR t) (hk : t.kind = 5) : Calls Try.prog 89 #[.agg (thC t)] w fun e w' => e = .returned (.bool (right_5 t p)) ∧ Below w.heap.size w w' := by
  have mixed : Try.prog.follows .mixedOrders = true := by kernel_rfl
  have HB : Hid (Below w.heap.size w (w.alloc (.cells (thC t) 61))) := (Below.refl _ w).alloc (Nat.le_refl _) _
  have HP : Hid (Blk (w.alloc (.cells (thC t) 61)) w.heap.size 61 (thC t)) := Blk.new w 61 _
  have H := hid (ThAt.below h HB.out)
  have HDN : Hid (t.data.n ≤ 9223372036854775807) := by show _ ≤ _; have := h.dt.cap; have := h.dt.max; unfold maxLen at this; omega
  have HR := hid hr
  have HK := hid hk
  obtain ⟨n, hn⟩ : ∃ z, z = namedB t.id := ⟨_, rfl⟩
  obtain ⟨r, hrr⟩ : ∃ z, z = rightB t.d1 p.l1 := ⟨_, rfl⟩
  obtain ⟨o, ho⟩ : ∃ z, z = sameT (bare5 t) (bl0 p) t p := ⟨_, rfl⟩
  obtain ⟨u, hu⟩ : ∃ z, z = pureB t.d1 p.l1 := ⟨_, rfl⟩
  obtain ⟨d, hd⟩ : ∃ z, z = (t.quota == 1) := ⟨_, rfl⟩
  obtain ⟨i, hi⟩ : ∃ z, z = (!((slotsL t).any oddSlot)) := ⟨_, rfl⟩
  obtain ⟨c1, hc1⟩ : ∃ z, z = !n := ⟨_, rfl⟩
  obtain ⟨c4, hc4⟩ : ∃ z, z = (c1 || !r) := ⟨_, rfl⟩
  obtain ⟨c5, hc5⟩ : ∃ z, z = (c4 || !o) := ⟨_, rfl⟩
  obtain ⟨v, hv⟩ : ∃ z, z = !u := ⟨_, rfl⟩
  have HE : Hid (right_5 t p = (!c5 && (!v && (d && i)))) := by
    show _ = _
    unfold right_5
    rw [hc5, hc4, hc1, hv, ← hn, ← hrr, ← ho, ← hu, ← hd, ← hi]
    simp only [Bool.not_or, Bool.not_not]
  have HN : Hid (∀ W, Calls Try.prog 136 #[.int .u64 t.id] W fun e w' => e = .returned (.bool n) ∧ W = w') := fun W => by rw [hn]; exact named136 W _
  have HR1 : Hid (∀ W, But nil_ (w.alloc (.cells (thC t) 61)) W → Calls Try.prog 51 #[.agg #[.int .i64 t.d1, .slice t.l1.a t.l1.n t.l1.c]] W fun e w' => e = .returned (.bool r) ∧ Below W.heap.size W w') := fun W hW => by rw [hrr]; exact right51 W _ _ _ _ _ (H.out.since_ hW).c1
  have HO : Hid (∀ W, But nil_ (w.alloc (.cells (thC t) 61)) W → Calls Try.prog 137 #[.agg (thC t)] W fun e w' => e = .returned (.bool o) ∧ Below W.heap.size W w') := fun W hW => by rw [ho]; exact only137_5 W t p (H.out.since_ hW) HK.out
  have HU : Hid (∀ W, But nil_ (w.alloc (.cells (thC t) 61)) W → Calls Try.prog 138 #[.agg #[.int .i64 t.d1, .slice t.l1.a t.l1.n t.l1.c]] W fun e w' => e = .returned (.bool u) ∧ Below W.heap.size W w') := fun W hW => by rw [hu]; exact pure138 W _ _ _ _ _ (H.out.since_ hW).c1
  have HI : Hid (∀ W, Calls Try.prog 141 #[.agg (thC t)] W fun e w' => e = .returned (.bool i) ∧ Below W.heap.size W w') := fun W => by rw [hi]; exact inside141_5 W t HK.out
  have HCo : Hid (∀ W, Calls Try.prog 140 #[.agg (thC t)] W fun e w' => e = .returned (.int .i64 1) ∧ Below W.heap.size W w') := fun W => (by have := cost140 W t HDN.out; rwa [show costT t = 1 from if_neg (by rw [HK.out]; decide)] at this)
  have HC1 := hid hc1
  have HC4 := hid hc4
  have HC5 := hid hc5
  have HV := hid hv
  have HD := hid hd
  skip
  skip
  clear hn hrr ho hu hd hi hc1 hc4 hc5 hv h hr hk HDN HR
  go_enter Try.func89, Try.ntmps89
  go_wp2_with (refine wp_list_told 25 25 nil_ rfl (by decide) ?_)
  generalize w.alloc (.cells (thC t) 61) = wa at *
  have HF : Hid (∀ W, But nil_ wa W → _) := fun W hW => Blk.front_5 HK.out (hW.blk HP.out (fun h => h))
  try simp only [List.take_succ_cons, List.take_zero, List.drop_succ_cons, List.drop_zero]
  repeat (refine told_val (v := ?_) (fun _ => rfl) (fun vs W hW => ?_) ?_; rotate_left; (focus (have hf := HF.out W hW; clear hW; go_simp; exact loose_val)); simp only [Act.put, List.setIfInBounds_toArray, List.set_cons_zero, List.set_cons_succ, List.nil_append, List.cons_append, Nat.reduceAdd, Leaves.at])
  refine told_val (v := .bool n) (fun _ => rfl) (fun vs W hW => ?_) ?_
  · go_simp
    exact loose_same (HN.out W)
  simp only [Act.put, List.setIfInBounds_toArray, List.set_cons_zero, List.set_cons_succ, List.nil_append, List.cons_append, Nat.reduceAdd, Leaves.at]
  refine told_val (v := .bool c1) (hw := fun _ => rfl) (hr := fun vs W hW => by rw [HC1.out]; clear hW; go_simp; exact loose_val) ?_
  simp only [Act.put, List.setIfInBounds_toArray, List.set_cons_zero, List.set_cons_succ, List.nil_append, List.cons_append, Nat.reduceAdd, Leaves.at]
  repeat (refine told_val (v := ?_) (fun _ => rfl) (fun vs W hW => ?_) ?_; rotate_left; (focus (have hf := HF.out W hW; clear hW; go_simp; exact loose_val)); simp only [Act.put, List.setIfInBounds_toArray, List.set_cons_zero, List.set_cons_succ, List.nil_append, List.cons_append, Nat.reduceAdd, Leaves.at])
  repeat (refine told_not (b := c1) (v := ?_) (fun _ => Bool.casesOn c1 rfl rfl) (fun hb vs W hW => ?_) ?_; rotate_left; (focus (have hf := HF.out W hW; clear hW; (try simp only [hb, cond_true, cond_false]); go_simp; exact loose_val)); simp only [Act.put, List.setIfInBounds_toArray, List.set_cons_zero, List.set_cons_succ, List.nil_append, List.cons_append, Nat.reduceAdd, Leaves.at])
  refine told_val (v := .bool c1) (hw := fun _ => rfl) (hr := fun vs W hW => by clear hW; cases c1 <;> (go_simp; exact loose_val)) ?_
  simp only [Act.put, List.setIfInBounds_toArray, List.set_cons_zero, List.set_cons_succ, List.nil_append, List.cons_append, Nat.reduceAdd, Leaves.at]
  repeat (refine told_val (v := ?_) (fun _ => rfl) (fun vs W hW => ?_) ?_; rotate_left; (focus (have hf := HF.out W hW; clear hW; go_simp; exact loose_val)); simp only [Act.put, List.setIfInBounds_toArray, List.set_cons_zero, List.set_cons_succ, List.nil_append, List.cons_append, Nat.reduceAdd, Leaves.at])
  repeat (refine told_not (b := c1) (v := ?_) (fun _ => Bool.casesOn c1 rfl rfl) (fun hb vs W hW => ?_) ?_; rotate_left; (focus (have hf := HF.out W hW; clear hW; (try simp only [hb, cond_true, cond_false]); go_simp; exact loose_val)); simp only [Act.put, List.setIfInBounds_toArray, List.set_cons_zero, List.set_cons_succ, List.nil_append, List.cons_append, Nat.reduceAdd, Leaves.at])
  refine told_val (v := .bool c1) (hw := fun _ => rfl) (hr := fun vs W hW => by clear hW; cases c1 <;> (go_simp; exact loose_val)) ?_
  simp only [Act.put, List.setIfInBounds_toArray, List.set_cons_zero, List.set_cons_succ, List.nil_append, List.cons_append, Nat.reduceAdd, Leaves.at]
  repeat (refine told_val (v := ?_) (fun _ => rfl) (fun vs W hW => ?_) ?_; rotate_left; (focus (have hf := HF.out W hW; clear hW; go_simp; exact loose_val)); simp only [Act.put, List.setIfInBounds_toArray, List.set_cons_zero, List.set_cons_succ, List.nil_append, List.cons_append, Nat.reduceAdd, Leaves.at])
  repeat (refine told_not (b := c1) (v := ?_) (fun _ => Bool.casesOn c1 rfl rfl) (fun hb vs W hW => ?_) ?_; rotate_left; (focus (have hf := HF.out W hW; clear hW; (try simp only [hb, cond_true, cond_false]); go_simp; exact loose_val)); simp only [Act.put, List.setIfInBounds_toArray, List.set_cons_zero, List.set_cons_succ, List.nil_append, List.cons_append, Nat.reduceAdd, Leaves.at])
  refine told_not (b := c1) (v := .bool r) (fun _ => Bool.casesOn c1 rfl rfl) (fun hb vs W hW => ?_) ?_
  · try simp only [hb, cond_true, cond_false]
    go_simp
    exact loose_call (HR1.out W hW)
  simp only [Act.put, List.setIfInBounds_toArray, List.set_cons_zero, List.set_cons_succ, List.nil_append, List.cons_append, Nat.reduceAdd, Leaves.at]
  repeat (refine told_not (b := c1) (v := ?_) (fun _ => Bool.casesOn c1 rfl rfl) (fun hb vs W hW => ?_) ?_; rotate_left; (focus (have hf := HF.out W hW; clear hW; (try simp only [hb, cond_true, cond_false]); go_simp; exact loose_val)); simp only [Act.put, List.setIfInBounds_toArray, List.set_cons_zero, List.set_cons_succ, List.nil_append, List.cons_append, Nat.reduceAdd, Leaves.at])
  refine told_val (v := .bool c4) (hw := fun _ => rfl) (hr := fun vs W hW => by rw [HC4.out]; clear hW; cases c1 <;> (go_simp; exact loose_val)) ?_
  simp only [Act.put, List.setIfInBounds_toArray, List.set_cons_zero, List.set_cons_succ, List.nil_append, List.cons_append, Nat.reduceAdd, Leaves.at]
  repeat (refine told_val (v := ?_) (fun _ => rfl) (fun vs W hW => ?_) ?_; rotate_left; (focus (have hf := HF.out W hW; clear hW; go_simp; exact loose_val)); simp only [Act.put, List.setIfInBounds_toArray, List.set_cons_zero, List.set_cons_succ, List.nil_append, List.cons_append, Nat.reduceAdd, Leaves.at])
  refine told_not (b := c4) (v := .agg (thC t)) (fun _ => Bool.casesOn c4 rfl rfl) (fun hb vs W hW => loose_load61 rfl rfl (hW.blk HP.out (fun h => h))) ?_
  simp only [Act.put, List.setIfInBounds_toArray, List.set_cons_zero, List.set_cons_succ, List.nil_append, List.cons_append, Nat.reduceAdd, Leaves.at]
  refine told_not (b := c4) (v := .bool o) (fun _ => Bool.casesOn c4 rfl rfl) (fun hb vs W hW => ?_) ?_
  · try simp only [hb, cond_true, cond_false]
    go_simp
    exact loose_call (HO.out W hW)
  simp only [Act.put, List.setIfInBounds_toArray, List.set_cons_zero, List.set_cons_succ, List.nil_append, List.cons_append, Nat.reduceAdd, Leaves.at]
  repeat (refine told_not (b := c4) (v := ?_) (fun _ => Bool.casesOn c4 rfl rfl) (fun hb vs W hW => ?_) ?_; rotate_left; (focus (have hf := HF.out W hW; clear hW; (try simp only [hb, cond_true, cond_false]); go_simp; exact loose_val)); simp only [Act.put, List.setIfInBounds_toArray, List.set_cons_zero, List.set_cons_succ, List.nil_append, List.cons_append, Nat.reduceAdd, Leaves.at])
  refine told_val (v := .bool c5) (hw := fun _ => rfl) (hr := fun vs W hW => by rw [HC5.out]; clear hW; cases c4 <;> (go_simp; exact loose_val)) ?_
  simp only [Act.put, List.setIfInBounds_toArray, List.set_cons_zero, List.set_cons_succ, List.nil_append, List.cons_append, Nat.reduceAdd, Leaves.at]
  refine told_nil ?_
  intro vs W1 hW1 hok hap
  clear hap
  dsimp only
  have HW1 := hid hW1
  have HB1 := hid (HB.out.trans (since_below hW1 HB.out.size))
  obtain ⟨_, f1, f2, f3, f4, f5, _⟩ := HF.out W1 hW1
  clear hok hW1 HF
  cases c5 with
  | true =>
    go_wp2_with fail
    go_ret
    exact ⟨by rw [HE.out]; rfl, HB1.out⟩
  | false =>
    cases u with
    | false =>
      obtain rfl : v = true := HV.out
      go_wp2_with (go_at_call 138; refine (HU.out _ HW1.out).mono ?_; rintro e w2 ⟨rfl, hb2⟩)
      go_ret
      exact ⟨by rw [HE.out]; rfl, HB1.out.trans (hb2.mono HB1.out.size)⟩
    | true =>
      obtain rfl : v = false := HV.out
      go_wp2_with (go_at_call 138; refine (HU.out _ HW1.out).mono ?_; rintro e W2 ⟨rfl, hb2⟩; have g1 := (Blk.front_5 HK.out ((HW1.out.trans ((But.refl nil_ W1).below hb2)).blk HP.out (fun h => h))).2.1)
      have HW2 := hid (HW1.out.trans ((But.refl nil_ W1).below hb2))
      have HB2 := hid (HB1.out.trans (hb2.mono HB1.out.size))
      clear hb2
      have HF : Hid (∀ W, But nil_ W2 W → _) := fun W hW => Blk.front_5 HK.out ((HW2.out.trans hW).blk HP.out (fun h => h))
      clear f1 f2 f3 f4 f5 g1
      refine wp_region_told 10 nil_ mixed (by kernel_rfl) ?_
      simp only [List.take_succ_cons, List.take_zero, List.drop_succ_cons, List.drop_zero]
      repeat (refine told_val (v := ?_) (fun _ => rfl) (fun vs W hW => ?_) ?_; rotate_left; (focus (have hf := HF.out W hW; clear hW; go_simp; exact loose_val)); simp only [Act.put, List.setIfInBounds_toArray, List.set_cons_zero, List.set_cons_succ, List.nil_append, List.cons_append, Nat.reduceAdd, Leaves.at])
      refine told_val (v := .agg (thC t)) (hw := fun _ => rfl) (hr := fun vs W hW => loose_load61 rfl rfl ((HW2.out.trans hW).blk HP.out (fun h => h))) ?_
      simp only [Act.put, List.setIfInBounds_toArray, List.set_cons_zero, List.set_cons_succ, List.nil_append, List.cons_append, Nat.reduceAdd, Leaves.at]
      refine told_val (v := .int .i64 1) (fun _ => rfl) (fun vs W hW => ?_) ?_
      · go_simp
        exact loose_call (HCo.out W)
      simp only [Act.put, List.setIfInBounds_toArray, List.set_cons_zero, List.set_cons_succ, List.nil_append, List.cons_append, Nat.reduceAdd, Leaves.at]
      refine told_val (v := .bool d) (hw := fun _ => rfl) (hr := fun vs W hW => by rw [HD.out]; clear hW; go_simp; exact loose_val) ?_
      simp only [Act.put, List.setIfInBounds_toArray, List.set_cons_zero, List.set_cons_succ, List.nil_append, List.cons_append, Nat.reduceAdd, Leaves.at]
      repeat (refine told_val (v := ?_) (fun _ => rfl) (fun vs W hW => ?_) ?_; rotate_left; (focus (have hf := HF.out W hW; clear hW; go_simp; exact loose_val)); simp only [Act.put, List.setIfInBounds_toArray, List.set_cons_zero, List.set_cons_succ, List.nil_append, List.cons_append, Nat.reduceAdd, Leaves.at])
      refine told_maybe (b := d) (v := .agg (thC t)) (fun _ => Bool.casesOn d rfl rfl) (fun hb vs W hW => loose_load61 rfl rfl ((HW2.out.trans hW).blk HP.out (fun h => h))) ?_
      simp only [Act.put, List.setIfInBounds_toArray, List.set_cons_zero, List.set_cons_succ, List.nil_append, List.cons_append, Nat.reduceAdd, Leaves.at]
      refine told_maybe (b := d) (v := .bool i) (fun _ => Bool.casesOn d rfl rfl) (fun hb vs W hW => ?_) ?_
      · try simp only [hb, cond_true, cond_false]
        go_simp
        exact loose_call (HI.out W)
      simp only [Act.put, List.setIfInBounds_toArray, List.set_cons_zero, List.set_cons_succ, List.nil_append, List.cons_append, Nat.reduceAdd, Leaves.at]
      refine told_val (v := .bool (d && i)) (hw := fun _ => rfl) (hr := fun vs W hW => by clear hW; cases d <;> (go_simp; exact loose_val)) ?_
      simp only [Act.put, List.setIfInBounds_toArray, List.set_cons_zero, List.set_cons_succ, List.nil_append, List.cons_append, Nat.reduceAdd, Leaves.at]
      repeat (refine told_val (v := ?_) (fun _ => rfl) (fun vs W hW => ?_) ?_; rotate_left; (focus (have hf := HF.out W hW; clear hW; go_simp; exact loose_val)); simp only [Act.put, List.setIfInBounds_toArray, List.set_cons_zero, List.set_cons_succ, List.nil_append, List.cons_append, Nat.reduceAdd, Leaves.at])
      refine told_nil ?_
      intro vs W hW hok hap
      clear hap
      dsimp only
      have HB3 := hid (HB2.out.trans (since_below hW HB2.out.size))
      clear hok hW
      go_wp2_with fail
      go_ret
      exact ⟨by rw [HE.out]; rfl, HB3.out⟩
end Go.Proofs.Ytndohmimcbmhdaa

/- Bytes as a string. -/
set_option linter.unusedVariables false
set_option linter.unusedSimpArgs false
namespace Go.Proofs.Ytndohmimcbmhdaa
open Go.RowKit Go.Sort

def strOfNums (xs : List Int) : ByteArray := ⟨(xs.map fun n => UInt8.ofNat n.toNat).toArray⟩
theorem run_conv57 {w : World} {B : Nat} {A : Option Addr} {n c : Nat} {bs : List Int} (h : BytesAt w B A n c bs) : (convert 57 9 (.slice A n c)).run Try.prog w = .ok (.string (strOfNums bs)) w := by
  rcases Nat.eq_zero_or_pos n with h0 | h0
  · subst h0
    have e : bs = [] := List.eq_nil_of_length_eq_zero h.len
    subst e
    cases A with
    | none =>
      rw [run_convert_bytes_string w 57 9 5 none 0 c Try.underlying57 Try.underlying5 Try.underlying9]
      simp [Conv.bytesToString]
      rfl
    | some a =>
      obtain ⟨b, off, sp⟩ := a
      rw [run_convert_bytes_string w 57 9 5 _ 0 c Try.underlying57 Try.underlying5 Try.underlying9]
      simp [Conv.bytesToString, loadCells, loadCellsFrom]
      rfl
  · obtain ⟨b, off, e, _, hc⟩ := h.cells h0
    subst e
    have hl := h.len
    have := run_convert_bytes_back (P := Try.prog) w 57 9 5 ⟨b, off, none⟩ c (bs.map fun n => UInt8.ofNat n.toNat) Try.underlying57 Try.underlying5 Try.underlying9 (fun j hj => by
      have hj' : j < bs.length := by simpa using hj
      have ha : (⟨b, off, none⟩ : Addr).add j = ⟨b, off + j, none⟩ := by unfold Addr.add; split <;> simp_all
      have hx := List.getElem?_eq_getElem (l := bs) (i := j) hj'
      have hr := h.fit _ (List.getElem_mem hj')
      rw [ha, hc j _ hx]
      simp
      omega)
    rw [List.length_map, hl] at this
    exact this
theorem strOfNums_eq {a b : List Int} (ha : ∀ x ∈ a, 0 ≤ x ∧ x ≤ 255) (hb : ∀ x ∈ b, 0 ≤ x ∧ x ≤ 255) : ((strOfNums a).toList == (strOfNums b).toList) = bytesB a b := by
  have key : ∀ l : List Int, (strOfNums l).toList = l.map fun n => UInt8.ofNat n.toNat := fun l => by
    rw [ByteArray.toList_eq]
    simp [strOfNums]
  unfold bytesB
  rw [key, key, Bool.eq_iff_iff, beq_iff_eq, decide_eq_true_eq]
  constructor
  · intro h
    have inj : ∀ x y : Int, 0 ≤ x ∧ x ≤ 255 → 0 ≤ y ∧ y ≤ 255 → UInt8.ofNat x.toNat = UInt8.ofNat y.toNat → x = y := fun x y hx hy e => by
      have := congrArg UInt8.toNat e
      simp [UInt8.toNat_ofNat'] at this
      omega
    clear key
    induction a generalizing b with
    | nil => cases b with
      | nil => rfl
      | cons y b => cases h
    | cons x a ih => cases b with
      | nil => cases h
      | cons y b =>
        rw [List.map_cons, List.map_cons] at h
        injection h with h1 h2
        rw [inj x y (ha x List.mem_cons_self) (hb y List.mem_cons_self) h1, ih (fun z hz => ha z (List.mem_cons_of_mem _ hz)) (fun z hz => hb z (List.mem_cons_of_mem _ hz)) h2]
  · intro h; rw [h]
theorem loose_conv57 {o : Oper} {a : Act} {W : World} {x : Operand} {B : Nat} {A : Option Addr} {n c : Nat} {bs : List Int} (ho : o.op = .convert 57 9 x) (hx : a.eval x = .slice A n c) (h : BytesAt W B A n c bs) : looseUpon Try.prog nil_ (.val (.string (strOfNums bs))) W ((execOp a.eval o).run Try.prog W) := by
  unfold execOp
  simp only [ho, hx, Sem.run_bind, run_conv57 h, Result.andThen_ok, Sem.run_pure]
  exact loose_val
theorem loose_neqS {o : Oper} {a : Act} {W : World} {x y : Operand} {ty : TypeId} {p q : List Int} (ho : o.op = .binOp .neq 9 x y ty) (hx : a.eval x = .string (strOfNums p)) (hy : a.eval y = .string (strOfNums q)) (hp : ∀ x ∈ p, 0 ≤ x ∧ x ≤ 255) (hq : ∀ x ∈ q, 0 ≤ x ∧ x ≤ 255) : looseUpon Try.prog nil_ (.val (.bool (!(bytesB p q)))) W ((execOp a.eval o).run Try.prog W) := by
  unfold execOp
  simp only [ho, hx, hy, eqGuard, binOp, Op.stringOp, Sem.run_bind, Sem.run_pure, Result.andThen_ok, strOfNums_eq hp hq]
  exact loose_val

theorem loose_ld {o : Oper} {a : Act} {W : World} {x : Operand} {g off : Nat} {t ty : TypeId} {cs : Array Value} {v : Value} (ho : o.op = .load ty x) (hx : a.eval x = .pointer (some ⟨g, off, none⟩)) (hk : Blk W g t cs) (hv : cs[off]? = some v)
    (hna : ∀ u : World, (isAgg ty).run Try.prog u = .ok false u) : looseUpon Try.prog nil_ (.val v) W ((execOp a.eval o).run Try.prog W) := by
  have hl : (load ⟨g, off, none⟩).run Try.prog W = .ok v W := by rw [run_load, Blk.cell hk, hv]
  have hlv : (loadVar ty ⟨g, off, none⟩).run Try.prog W = .ok v W := by
    unfold loadVar
    rw [Sem.run_bind, hna, Result.andThen_ok, if_neg (by decide), hl]
  unfold execOp
  simp only [ho, hx, Instr.loadAt, Instr.sureAddr, Sem.run_bind, Sem.run_pure, Result.andThen_ok, hlv]
  exact loose_val
theorem na24 (u : World) : (isAgg 24).run Try.prog u = .ok false u := by unfold isAgg; rw [Sem.run_bind, run_underlying Try.underlying24 u]; rfl
theorem na3 (u : World) : (isAgg 3).run Try.prog u = .ok false u := by unfold isAgg; rw [Sem.run_bind, run_underlying Try.underlying3 u]; rfl
theorem na4 (u : World) : (isAgg 4).run Try.prog u = .ok false u := by unfold isAgg; rw [Sem.run_bind, run_underlying Try.underlying4 u]; rfl
theorem na23 (u : World) : (isAgg 23).run Try.prog u = .ok false u := by unfold isAgg; rw [Sem.run_bind, run_underlying Try.underlying23 u]; rfl
theorem na56 (u : World) : (isAgg 56).run Try.prog u = .ok false u := by unfold isAgg; rw [Sem.run_bind, run_underlying Try.underlying56 u]; rfl
theorem na57 (u : World) : (isAgg 57).run Try.prog u = .ok false u := by unfold isAgg; rw [Sem.run_bind, run_underlying Try.underlying57 u]; rfl
theorem agg26 : ∀ u : World, (isAgg 26).run Try.prog u = .ok true u := agg_of_struct Try.underlying26
end Go.Proofs.Ytndohmimcbmhdaa

/- space.Where, its document's; named things. -/
set_option linter.unusedVariables false
set_option linter.unusedSimpArgs false
namespace Go.Proofs.Ytndohmimcbmhdaa
open Go.RowKit Go.Sort

def slotAt (t : Th) (i : Int) : Int × Int := if i = 0 then (t.s0, t.s1) else if i = 1 then (t.s2, t.s3) else if i = 2 then (t.s4, t.s5) else (t.s6, t.s7)
def slotZ (s : Int × Int) : Bool := s.1 == 0 && s.2 == 0
/-- Does an address mean anything? -/
def hitB (t : Th) (a : Int) : Bool := decide (0 ≤ a ∧ a < 512) && !(slotZ (slotAt t (a / 128)))
def slotVal (s : Int × Int) : Value := .agg #[.int .u64 s.1, .int .u64 s.2]
def whereV (t : Th) (a : Int) : Value := if hitB t a then .tuple #[slotVal (slotAt t (a / 128)), .int .i64 (a % 128), .int .i64 0] else .tuple #[.agg #[.int .u64 0, .int .u64 0], .int .i64 0, .int .i64 172]
theorem Blk.slot {w : World} {g : Nat} {t : Th} (h : Blk w g 61 (thC t)) {i : Int} (h0 : 0 ≤ i) (hi : i < 4) : w.cell? ⟨g, 18 + i.toNat * 2, none⟩ = some (.int .u64 (slotAt t i).1) ∧ w.cell? ⟨g, 18 + i.toNat * 2 + 1, none⟩ = some (.int .u64 (slotAt t i).2) := by
  obtain ⟨b0, b1, b2, b3, b4, b5, b6, b7⟩ := Blk.back h
  have : i = 0 ∨ i = 1 ∨ i = 2 ∨ i = 3 := by omega
  rcases this with rfl | rfl | rfl | rfl
  · exact ⟨b0, b1⟩
  · exact ⟨b2, b3⟩
  · exact ⟨b4, b5⟩
  · exact ⟨b6, b7⟩
theorem sp_run {w : World} {g : Nat} {T : TypeId} {a b : Value} (h : Blk w g 52 #[a, b]) : Blk w g 52 #[a, b] := h

set_option maxHeartbeats 4000000 in
set_option maxRecDepth 100000 in
theorem where68 (w : World) (t : Th) (a : Int) : Calls Try.prog 68 #[.agg (thC t), .int .i64 a] w fun e w' => e = .returned (whereV t a) ∧ Below w.heap.size w w' := by
  have HB : Hid (Below w.heap.size w ((w.alloc (.cells (thC t) 61)).alloc (.cells #[.int .u64 0, .int .u64 0] 52))) := ((Below.refl _ w).alloc (Nat.le_refl _) _).alloc (by simp) _
  by_cases h : a < 0 ∨ 512 ≤ a
  · have HE : Hid (whereV t a = .tuple #[.agg #[.int .u64 0, .int .u64 0], .int .i64 0, .int .i64 172]) := by
      show _ = _
      unfold whereV
      rw [if_neg]
      unfold hitB
      rw [decide_eq_false (by omega)]
      exact Bool.false_ne_true
    rcases h with h | h
    · go_enter Try.func68, Try.ntmps68
      go_wp2_with fail
      refine bodyPost_ret (v := .tuple #[.agg #[.int .u64 0, .int .u64 0], .int .i64 0, .int .i64 172]) (by simp [results, Try.results68, go_sem]) rfl ⟨by rw [HE.out], HB.out⟩
    · have h' : ¬ a < 0 := by omega
      go_enter Try.func68, Try.ntmps68
      go_wp2_with fail
      refine bodyPost_ret (v := .tuple #[.agg #[.int .u64 0, .int .u64 0], .int .i64 0, .int .i64 172]) (by simp [results, Try.results68, go_sem]) rfl ⟨by rw [HE.out], HB.out⟩
  · have h0 : ¬ a < 0 := by omega
    have h1 : ¬ 512 ≤ a := by omega
    have ha0 : 0 ≤ a := by omega
    have ha1 : a < 512 := by omega
    have hq0 : 0 ≤ a / 128 := by omega
    have hq1 : a / 128 < 4 := by omega
    have HP : Hid (Blk ((w.alloc (.cells (thC t) 61)).alloc (.cells #[.int .u64 0, .int .u64 0] 52)) w.heap.size 61 (thC t)) := (Blk.new w 61 _).alloc _
    obtain ⟨q1, q2⟩ := Blk.slot HP.out hq0 hq1
    have HE : Hid (whereV t a = if slotZ (slotAt t (a / 128)) then .tuple #[.agg #[.int .u64 0, .int .u64 0], .int .i64 0, .int .i64 172] else .tuple #[slotVal (slotAt t (a / 128)), .int .i64 (a % 128), .int .i64 0]) := by
      show _ = _
      unfold whereV hitB
      rw [decide_eq_true (by omega), Bool.true_and]
      cases slotZ (slotAt t (a / 128)) <;> rfl
    clear h
    generalize slotAt t (a / 128) = p at *
    obtain ⟨x, y⟩ := p
    have HB2 : ∀ c d : Value, Hid (Below w.heap.size w ((w.alloc (.cells (thC t) 61)).alloc (.cells #[c, d] 52))) := fun c d => ((Below.refl _ w).alloc (Nat.le_refl _) _).alloc (by simp) _
    have HB3 := hid HB2
    clear HB2
    simp only at q1 q2
    by_cases hx : x = 0
    · subst hx
      by_cases hy : y = 0
      · subst hy
        go_enter Try.func68, Try.ntmps68
        go_wp2_with fail
        refine bodyPost_ret (v := .tuple #[.agg #[.int .u64 0, .int .u64 0], .int .i64 0, .int .i64 172]) (by simp [results, Try.results68, go_sem]) rfl ⟨by rw [HE.out]; rfl, (HB3.out _ _).out⟩
      · have hy' : (y == 0) = false := by simpa using hy
        have HE2 : Hid (slotZ (0, y) = false) := by show (_ && _) = _; simp [hy]
        clear hy
        go_enter Try.func68, Try.ntmps68
        go_wp2_with fail
        refine bodyPost_ret (v := .tuple #[.agg #[.int .u64 0, .int .u64 y], .int .i64 (a % 128), .int .i64 0]) (by simp [results, Try.results68, go_sem]) rfl ⟨by rw [HE.out, HE2.out]; rfl, (HB3.out _ _).out⟩
    · have hx' : (x == 0) = false := by simpa using hx
      have HE2 : Hid (slotZ (x, y) = false) := by show (_ && _) = _; simp [hx]
      clear hx
      go_enter Try.func68, Try.ntmps68
      go_wp2_with fail
      refine bodyPost_ret (v := .tuple #[.agg #[.int .u64 x, .int .u64 y], .int .i64 (a % 128), .int .i64 0]) (by simp [results, Try.results68, go_sem]) rfl ⟨by rw [HE.out, HE2.out]; rfl, (HB3.out _ _).out⟩

set_option maxHeartbeats 4000000 in
set_option maxRecDepth 100000 in
theorem empty69 (w : World) : Calls Try.prog 69 #[] w fun e w' => e = .returned (.agg (thC { zeroTh with id := 70, kind := 5, d1 := 2, quota := 1 })) ∧ Below w.heap.size w w' := by
  have HP : Hid (Blk (w.alloc (.cells (thC zeroTh) 61)) w.heap.size 61 (thC zeroTh)) := Blk.new w 61 _
  have HB : Hid (Below w.heap.size w (w.alloc (.cells (thC zeroTh) 61))) := (Below.refl _ w).alloc (Nat.le_refl _) _
  go_enter Try.func69, Try.ntmps69
  go_wp2_with (first | (refine wpList_alloc61 ?_) | (refine wpList_store61 { zeroTh with id := 70, kind := 5, d1 := 2, quota := 1 } zeroTh w.heap.size rfl rfl HP.out ?_; intro W1 hb1 hk1))
  refine bodyPost_ret (th_run hk1 rfl _ rfl) rfl ⟨rfl, hb1.done HB.out (fun k e => by omega) (by simp)⟩
end Go.Proofs.Ytndohmimcbmhdaa
