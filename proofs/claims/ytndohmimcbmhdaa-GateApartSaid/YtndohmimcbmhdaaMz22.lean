/- thing.cost, thing.links. -/
import Derived.Test.YtndohmimcbmhdaaMz21
set_option linter.unusedVariables false
set_option linter.unusedSimpArgs false
namespace Go.Proofs.Ytndohmimcbmhdaa
open Go.RowKit Go.Sort

def costT (t : Th) : Int := if t.kind = 4 then 1 + (t.data.n : Int) / 32 else 1
set_option maxHeartbeats 2000000 in
set_option maxRecDepth 100000 in
theorem cost140 (w : World) (t : Th) (hn : t.data.n ≤ 9223372036854775807) : Calls Try.prog 140 #[.agg (thC t)] w fun e w' => e = .returned (.int .i64 (costT t)) ∧ Below w.heap.size w w' := by
  have HB : Hid (Below w.heap.size w (w.alloc (.cells (thC t) 61))) := (Below.refl _ w).alloc (Nat.le_refl _) _
  have HP : Hid (Blk (w.alloc (.cells (thC t) 61)) w.heap.size 61 (thC t)) := Blk.new w 61 _
  by_cases hk : t.kind = 4
  · have HE : Hid (costT t = 1 + (t.data.n : Int) / 32) := if_pos hk
    have hb : (t.kind == 4) = true := by simpa using hk
    clear hk
    go_enter Try.func140, Try.ntmps140
    go_wp2_with (refine wp_list_told 3 3 nil_ rfl (by decide) ?_)
    generalize w.alloc (.cells (thC t) 61) = wa at *
    have HF : Hid (∀ W, But nil_ wa W → _) := fun W hW => Blk.front (hW.blk HP.out (fun h => h))
    try simp only [List.take_succ_cons, List.take_zero, List.drop_succ_cons, List.drop_zero]
    repeat (refine told_val (v := ?_) (fun _ => rfl) (fun vs W hW => ?_) ?_; rotate_left; (focus (have hf := HF.out W hW; clear hW; go_simp; exact loose_val)); simp only [Act.put, List.setIfInBounds_toArray, List.set_cons_zero, List.set_cons_succ, List.nil_append, List.cons_append, Nat.reduceAdd, Leaves.at])
    refine told_nil ?_
    intro vs W hW hok hap
    clear hap
    dsimp only
    have HB2 := hid (HB.out.trans (since_below hW HB.out.size))
    have f9 := (HF.out W hW).2.2.2.2.2.2.2.2.2
    clear hok hW HF
    go_wp2_with fail
    go_ret
    exact ⟨by rw [HE.out]; rfl, HB2.out⟩
  · have HE : Hid (costT t = 1) := if_neg hk
    have hb : (t.kind == 4) = false := by simpa using hk
    clear hk
    go_enter Try.func140, Try.ntmps140
    go_wp2_with (refine wp_list_told 3 3 nil_ rfl (by decide) ?_)
    generalize w.alloc (.cells (thC t) 61) = wa at *
    have HF : Hid (∀ W, But nil_ wa W → _) := fun W hW => Blk.front (hW.blk HP.out (fun h => h))
    try simp only [List.take_succ_cons, List.take_zero, List.drop_succ_cons, List.drop_zero]
    repeat (refine told_val (v := ?_) (fun _ => rfl) (fun vs W hW => ?_) ?_; rotate_left; (focus (have hf := HF.out W hW; clear hW; go_simp; exact loose_val)); simp only [Act.put, List.setIfInBounds_toArray, List.set_cons_zero, List.set_cons_succ, List.nil_append, List.cons_append, Nat.reduceAdd, Leaves.at])
    refine told_nil ?_
    intro vs W hW hok hap
    clear hap
    dsimp only
    have HB2 := hid (HB.out.trans (since_below hW HB.out.size))
    clear hok hW HF
    go_wp2_with fail
    go_ret
    exact ⟨by rw [HE.out]; rfl, HB2.out⟩
theorem linkAt_eq {l : List (Int × Int)} {k : Nat} {i v : Int} (hx : l[k]? = some (i, v)) : linkAt l k = decide (namedB i = true ∧ 1 ≤ v ∧ v ≤ 48 ∧ (k = 0 ∨ ∀ y, l[k - 1]? = some y → y.1 < i)) := by unfold linkAt; rw [hx]

set_option maxHeartbeats 4000000 in
set_option maxRecDepth 100000 in
theorem links139 (w : World) (A : Option Addr) (n c : Nat) (l : List (Int × Int)) (quota : Int) (h : CatsAt w w.heap.size A n c l) :
    Calls Try.prog 139 #[.slice A n c, .int .i64 quota] w fun e w' => e = .returned (.bool (linksB l quota)) ∧ Below w.heap.size w w' := by
  have mixed : Try.prog.follows .mixedOrders = true := by kernel_rfl
  have H := hid h
  have HL := hid h.len
  clear h
  by_cases hn : 16 < n
  · have hz : (16 : Int) < (n : Int) := by omega
    have HE : Hid (linksB l quota = false) := by show _ = _; unfold linksB; rw [decide_eq_false (by rw [HL.out]; omega)]; rfl
    go_enter Try.func139, Try.ntmps139
    go_wp2_with fail
    go_ret
    exact ⟨by rw [HE.out]; rfl, Below.refl _ _⟩
  · have hz : ¬ (16 : Int) < (n : Int) := by omega
    have HE : Hid (linksB l quota = (linksTo l n && decide (sumTo l n ≤ quota))) := by show _ = _; unfold linksB; rw [HL.out, decide_eq_true (by omega)]; rfl
    go_enter Try.func139, Try.ntmps139
    go_wp2_with fail
    go_loopw [5, 13] (fun su vi wr => ∃ k : Nat, k ≤ n ∧ vi = .int .i64 k ∧ su = .int .i64 (sumTo l k) ∧ Hid (Below w.heap.size w wr) ∧ Hid (linksTo l k = true)) (fun _ vi _ => n - (intOf vi).toNat)
    case atStart => exact ⟨0, Nat.zero_le _, rfl, rfl, Below.refl _ _, rfl⟩
    case round =>
      obtain ⟨k, hk, rfl, rfl, BW, LK⟩ := hrel
      by_cases hlt : k < n
      · have hltz : (k : Int) < (n : Int) := by omega
        have hsm := sumTo_le LK.out
        have hs1 := hsm.1
        have hs2 := hsm.2
        clear hsm
        obtain ⟨b, off, i, v, rfl, hbB, hx, g0, g1⟩ := (H.out.below BW.out).at2_ hlt
        have HX := hid hx
        have HS := hid (sumTo_succ l k (i, v) hx)
        have HLK := hid (linkAt_eq hx)
        have HLT := hid (linksTo_succ l k)
        obtain ⟨n0, hn0⟩ : ∃ z, z = namedB i := ⟨_, rfl⟩
        obtain ⟨a, ha⟩ : ∃ z, z = decide (v < 1) := ⟨_, rfl⟩
        obtain ⟨b1, hb1⟩ : ∃ z, z = decide (48 < v) := ⟨_, rfl⟩
        obtain ⟨c2, hc2⟩ : ∃ z, z = (!n0 || a) := ⟨_, rfl⟩
        obtain ⟨c3, hc3⟩ : ∃ z, z = (c2 || b1) := ⟨_, rfl⟩
        obtain ⟨c1, hc1⟩ : ∃ z, z = !n0 := ⟨_, rfl⟩
        have HC3 : Hid (c3 = false ↔ namedB i = true ∧ 1 ≤ v ∧ v ≤ 48) := by
          show _ ↔ _
          rw [hc3, hc2, hn0, ha, hb1]
          cases namedB i <;> simp
        have HN : Hid (∀ W, Calls Try.prog 136 #[.int .u64 i] W fun e w' => e = .returned (.bool n0) ∧ W = w') := fun W => by rw [hn0]; exact named136 W i
        have HA := hid ha
        have HB1 := hid hb1
        have HC1 := hid hc1
        have HC2 : Hid (c2 = (c1 || a)) := by show _ = _; rw [hc2, hc1]
        have HC3' := hid hc3
        clear hx ha hb1 hc2 hc3 hn0 hc1
        have hlb : b < wr.heap.size := Nat.lt_of_lt_of_le hbB BW.out.size
        have HWr : Hid (Below w.heap.size w (wr.alloc (.cells #[.int .u64 i, .int .i64 v] 101))) := BW.out.alloc BW.out.size _
        have HP : Hid (Blk (wr.alloc (.cells #[.int .u64 i, .int .i64 v] 101)) wr.heap.size 101 #[.int .u64 i, .int .i64 v]) := Blk.new wr 101 _
        have HCt := hid (H.out.below HWr.out)
        go_wp2_with fail
        generalize wr.alloc (.cells #[.int .u64 i, .int .i64 v] 101) = wa at *
        by_cases hk0 : k = 0
        · have hkz : ¬ (0 : Int) < (k : Int) := by omega
          have hkd : decide (0 < k) = false := decide_eq_false (by omega)
          have HC4 : Hid (linkAt l k = !c3) := by
            show _ = _
            rw [HLK.out, Bool.eq_iff_iff]
            simp only [decide_eq_true_eq, Bool.not_eq_true', HC3.out]
            constructor
            · intro h; exact ⟨h.1, h.2.1, h.2.2.1⟩
            · intro h; exact ⟨h.1, h.2.1, h.2.2, .inl hk0⟩
          clear hk0
          have HF : Hid (∀ W, But nil_ wa W → (W.cell? ⟨wr.heap.size, 0, none⟩ = some (.int .u64 i) ∧ W.cell? ⟨wr.heap.size, 1, none⟩ = some (.int .i64 v)) ∧ True) := fun W hW => ⟨(hW.blk HP.out (fun h => h)).cells2, trivial⟩
          refine wp_region_told 29 nil_ mixed (by kernel_rfl) ?_
          simp only [List.take_succ_cons, List.take_zero, List.drop_succ_cons, List.drop_zero]
          repeat (refine told_val (v := ?_) (fun _ => rfl) (fun vs W hW => ?_) ?_; rotate_left; (focus (have hf := HF.out W hW; clear hW; go_simp; exact loose_val)); simp only [Act.put, List.setIfInBounds_toArray, List.set_cons_zero, List.set_cons_succ, List.nil_append, List.cons_append, Nat.reduceAdd, Leaves.at])
          refine told_val (v := .bool n0) (fun _ => rfl) (fun vs W hW => ?_) ?_
          · go_simp
            exact loose_same (HN.out W)
          simp only [Act.put, List.setIfInBounds_toArray, List.set_cons_zero, List.set_cons_succ, List.nil_append, List.cons_append, Nat.reduceAdd, Leaves.at]
          refine told_val (v := .bool c1) (hw := fun _ => rfl) (hr := fun vs W hW => by rw [HC1.out]; clear hW; go_simp; exact loose_val) ?_
          simp only [Act.put, List.setIfInBounds_toArray, List.set_cons_zero, List.set_cons_succ, List.nil_append, List.cons_append, Nat.reduceAdd, Leaves.at]
          repeat (refine told_val (v := ?_) (fun _ => rfl) (fun vs W hW => ?_) ?_; rotate_left; (focus (have hf := HF.out W hW; clear hW; go_simp; exact loose_val)); simp only [Act.put, List.setIfInBounds_toArray, List.set_cons_zero, List.set_cons_succ, List.nil_append, List.cons_append, Nat.reduceAdd, Leaves.at])
          repeat (refine told_not (b := c1) (v := ?_) (fun _ => Bool.casesOn c1 rfl rfl) (fun hb vs W hW => ?_) ?_; rotate_left; (focus (have hf := HF.out W hW; clear hW; (try simp only [hb, cond_true, cond_false]); go_simp; exact loose_val)); simp only [Act.put, List.setIfInBounds_toArray, List.set_cons_zero, List.set_cons_succ, List.nil_append, List.cons_append, Nat.reduceAdd, Leaves.at])
          refine told_val (v := .bool c2) (hw := fun _ => rfl) (hr := fun vs W hW => by rw [HC2.out, HA.out]; clear hW; cases c1 <;> (go_simp; exact loose_val)) ?_
          simp only [Act.put, List.setIfInBounds_toArray, List.set_cons_zero, List.set_cons_succ, List.nil_append, List.cons_append, Nat.reduceAdd, Leaves.at]
          repeat (refine told_val (v := ?_) (fun _ => rfl) (fun vs W hW => ?_) ?_; rotate_left; (focus (have hf := HF.out W hW; clear hW; go_simp; exact loose_val)); simp only [Act.put, List.setIfInBounds_toArray, List.set_cons_zero, List.set_cons_succ, List.nil_append, List.cons_append, Nat.reduceAdd, Leaves.at])
          repeat (refine told_not (b := c2) (v := ?_) (fun _ => Bool.casesOn c2 rfl rfl) (fun hb vs W hW => ?_) ?_; rotate_left; (focus (have hf := HF.out W hW; clear hW; (try simp only [hb, cond_true, cond_false]); go_simp; exact loose_val)); simp only [Act.put, List.setIfInBounds_toArray, List.set_cons_zero, List.set_cons_succ, List.nil_append, List.cons_append, Nat.reduceAdd, Leaves.at])
          refine told_val (v := .bool c3) (hw := fun _ => rfl) (hr := fun vs W hW => by rw [HC3'.out, HB1.out]; clear hW; cases c2 <;> (go_simp; exact loose_val)) ?_
          simp only [Act.put, List.setIfInBounds_toArray, List.set_cons_zero, List.set_cons_succ, List.nil_append, List.cons_append, Nat.reduceAdd, Leaves.at]
          repeat (refine told_val (v := ?_) (fun _ => rfl) (fun vs W hW => ?_) ?_; rotate_left; (focus (have hf := HF.out W hW; clear hW; go_simp; exact loose_val)); simp only [Act.put, List.setIfInBounds_toArray, List.set_cons_zero, List.set_cons_succ, List.nil_append, List.cons_append, Nat.reduceAdd, Leaves.at])
          refine told_not (b := c3) (v := (.int .i64 (k : Int))) (fun _ => Bool.casesOn c3 rfl rfl) (fun hb vs W hW => by clear hW; subst hb; go_simp; exact loose_val) ?_
          simp only [Act.put, List.setIfInBounds_toArray, List.set_cons_zero, List.set_cons_succ, List.nil_append, List.cons_append, Nat.reduceAdd, Leaves.at]
          refine told_not (b := c3) (v := .bool false) (fun _ => Bool.casesOn c3 rfl rfl) (fun hb vs W hW => by clear hW; subst hb; go_simp; exact loose_val) ?_
          simp only [Act.put, List.setIfInBounds_toArray, List.set_cons_zero, List.set_cons_succ, List.nil_append, List.cons_append, Nat.reduceAdd, Leaves.at]
          refine told_not (b := c3) (v := .bool false) (fun _ => Bool.casesOn c3 rfl rfl) (fun hb vs W hW => by clear hW; subst hb; go_simp; exact loose_val) ?_
          simp only [Act.put, List.setIfInBounds_toArray, List.set_cons_zero, List.set_cons_succ, List.nil_append, List.cons_append, Nat.reduceAdd, Leaves.at]
          refine told_off (fun _ => by cases c3 <;> rfl) ?_
          simp only [Act.put, List.setIfInBounds_toArray, List.set_cons_zero, List.set_cons_succ, List.nil_append, List.cons_append, Nat.reduceAdd, Leaves.at]
          refine told_off (fun _ => by cases c3 <;> rfl) ?_
          simp only [Act.put, List.setIfInBounds_toArray, List.set_cons_zero, List.set_cons_succ, List.nil_append, List.cons_append, Nat.reduceAdd, Leaves.at]
          refine told_off (fun _ => by cases c3 <;> rfl) ?_
          simp only [Act.put, List.setIfInBounds_toArray, List.set_cons_zero, List.set_cons_succ, List.nil_append, List.cons_append, Nat.reduceAdd, Leaves.at]
          refine told_off (fun _ => by cases c3 <;> rfl) ?_
          simp only [Act.put, List.setIfInBounds_toArray, List.set_cons_zero, List.set_cons_succ, List.nil_append, List.cons_append, Nat.reduceAdd, Leaves.at]
          refine told_off (fun _ => by cases c3 <;> rfl) ?_
          simp only [Act.put, List.setIfInBounds_toArray, List.set_cons_zero, List.set_cons_succ, List.nil_append, List.cons_append, Nat.reduceAdd, Leaves.at]
          refine told_off (fun _ => by cases c3 <;> rfl) ?_
          simp only [Act.put, List.setIfInBounds_toArray, List.set_cons_zero, List.set_cons_succ, List.nil_append, List.cons_append, Nat.reduceAdd, Leaves.at]
          refine told_off (fun _ => by cases c3 <;> rfl) ?_
          simp only [Act.put, List.setIfInBounds_toArray, List.set_cons_zero, List.set_cons_succ, List.nil_append, List.cons_append, Nat.reduceAdd, Leaves.at]
          refine told_off (fun _ => by cases c3 <;> rfl) ?_
          simp only [Act.put, List.setIfInBounds_toArray, List.set_cons_zero, List.set_cons_succ, List.nil_append, List.cons_append, Nat.reduceAdd, Leaves.at]
          refine told_off (fun _ => by cases c3 <;> rfl) ?_
          simp only [Act.put, List.setIfInBounds_toArray, List.set_cons_zero, List.set_cons_succ, List.nil_append, List.cons_append, Nat.reduceAdd, Leaves.at]
          refine told_not (b := c3) (v := .bool false) (fun _ => Bool.casesOn c3 rfl rfl) (fun hb vs W hW => ?_) ?_
          · clear hW; subst hb; go_simp; exact loose_val
          simp only [Act.put, List.setIfInBounds_toArray, List.set_cons_zero, List.set_cons_succ, List.nil_append, List.cons_append, Nat.reduceAdd, Leaves.at]
          refine told_val (v := .bool c3) (hw := fun _ => rfl) (hr := fun vs W hW => by clear hW; cases c3 <;> (go_simp; exact loose_val)) ?_
          simp only [Act.put, List.setIfInBounds_toArray, List.set_cons_zero, List.set_cons_succ, List.nil_append, List.cons_append, Nat.reduceAdd, Leaves.at]
          refine told_nil ?_
          intro vs W hW hok hap
          clear hap
          dsimp only
          have HB2 := hid (HWr.out.trans (since_below hW HWr.out.size))
          have g1' := (HF.out W hW).1.2
          clear hok hW HF
          cases c3 with
          | true =>
            have HE2 : Hid (linksTo l n = false) := by
              show _ = _
              cases hq : linksTo l n with
              | false => rfl
              | true => have := linksTo_at hq hlt; rw [HC4.out] at this; cases this
            go_wp2_with fail
            go_ret
            exact ⟨by rw [HE.out, HE2.out]; rfl, HB2.out⟩
          | false =>
            obtain ⟨_, hv1, hv2⟩ := HC3.out.1 rfl
            have HS2 : Hid (sumTo l (k + 1) = sumTo l k + v) := HS.out
            have HL2 : Hid (linksTo l (k + 1) = true) := by show _ = _; rw [HLT.out, LK.out, HC4.out]; rfl
            go_wp2_with fail
            go_roundw
            case measure => simp [intOf] <;> omega
            case rel => exact ⟨k + 1, by omega, by go_num, by rw [HS2.out], HB2.out, HL2.out⟩
        · have hkz : (0 : Int) < (k : Int) := by omega
          have hk1 : (1 : Int) ≤ (k : Int) := by omega
          have hkd : decide (0 < k) = true := decide_eq_true (by omega)
          obtain ⟨b', off', i', v', he, hbB', hx', g0', g1''⟩ := (HCt.out).at2_ (k := k - 1) (by omega)
          obtain ⟨rfl, rfl⟩ : b = b' ∧ off = off' := by
            have : (⟨b, off, none⟩ : Addr) = ⟨b', off', none⟩ := Option.some.inj he
            injection this with e1 e2
            exact ⟨e1, e2⟩
          obtain ⟨pg, hpg⟩ : ∃ z, z = decide (i ≤ i') := ⟨_, rfl⟩
          have HC4 : Hid (linkAt l k = !(c3 || pg)) := by
            show _ = _
            rw [HLK.out, Bool.eq_iff_iff, hpg]
            simp only [decide_eq_true_eq, Bool.not_eq_true', Bool.or_eq_false_iff, HC3.out, decide_eq_false_iff_not]
            constructor
            · intro h
              refine ⟨⟨h.1, h.2.1, h.2.2.1⟩, ?_⟩
              rcases h.2.2.2 with h1 | h1
              · omega
              · have := h1 _ hx'; simp only at this; omega
            · intro h
              refine ⟨h.1.1, h.1.2.1, h.1.2.2, .inr fun y hy => ?_⟩
              rw [hx'] at hy; cases hy
              have := h.2; simp only; omega
          have HPG := hid hpg
          have htn : ((k : Int) - 1).toNat = k - 1 := by omega
          have hk2 : (k : Int) - 1 < (n : Int) := by omega
          have HG := hid g0'
          have hwp : IntKind.i64.wrap ((k : Int) - 1) = (k : Int) - 1 := IntWalk.i64_in _ (by omega)
          have hk3 : (0 : Int) ≤ (k : Int) - 1 := by omega
          have hbw : b < wa.heap.size := Nat.lt_of_lt_of_le hbB HWr.out.size
          clear hk0 hpg hx' he g0' g1''
          have HF : Hid (∀ W, But nil_ wa W → (W.cell? ⟨wr.heap.size, 0, none⟩ = some (.int .u64 i) ∧ W.cell? ⟨wr.heap.size, 1, none⟩ = some (.int .i64 v)) ∧ W.cell? ⟨b, off + (k - 1) * 2, none⟩ = some (.int .u64 i')) := fun W hW =>
            ⟨(hW.blk HP.out (fun h => h)).cells2, ((since_below hW (Nat.le_refl _)).cell (p := ⟨b, off + (k - 1) * 2, none⟩) hbw).trans HG.out⟩
          refine wp_region_told 29 nil_ mixed (by kernel_rfl) ?_
          simp only [List.take_succ_cons, List.take_zero, List.drop_succ_cons, List.drop_zero]
          repeat (refine told_val (v := ?_) (fun _ => rfl) (fun vs W hW => ?_) ?_; rotate_left; (focus (have hf := HF.out W hW; clear hW; go_simp; exact loose_val)); simp only [Act.put, List.setIfInBounds_toArray, List.set_cons_zero, List.set_cons_succ, List.nil_append, List.cons_append, Nat.reduceAdd, Leaves.at])
          refine told_val (v := .bool n0) (fun _ => rfl) (fun vs W hW => ?_) ?_
          · go_simp
            exact loose_same (HN.out W)
          simp only [Act.put, List.setIfInBounds_toArray, List.set_cons_zero, List.set_cons_succ, List.nil_append, List.cons_append, Nat.reduceAdd, Leaves.at]
          refine told_val (v := .bool c1) (hw := fun _ => rfl) (hr := fun vs W hW => by rw [HC1.out]; clear hW; go_simp; exact loose_val) ?_
          simp only [Act.put, List.setIfInBounds_toArray, List.set_cons_zero, List.set_cons_succ, List.nil_append, List.cons_append, Nat.reduceAdd, Leaves.at]
          repeat (refine told_val (v := ?_) (fun _ => rfl) (fun vs W hW => ?_) ?_; rotate_left; (focus (have hf := HF.out W hW; clear hW; go_simp; exact loose_val)); simp only [Act.put, List.setIfInBounds_toArray, List.set_cons_zero, List.set_cons_succ, List.nil_append, List.cons_append, Nat.reduceAdd, Leaves.at])
          repeat (refine told_not (b := c1) (v := ?_) (fun _ => Bool.casesOn c1 rfl rfl) (fun hb vs W hW => ?_) ?_; rotate_left; (focus (have hf := HF.out W hW; clear hW; (try simp only [hb, cond_true, cond_false]); go_simp; exact loose_val)); simp only [Act.put, List.setIfInBounds_toArray, List.set_cons_zero, List.set_cons_succ, List.nil_append, List.cons_append, Nat.reduceAdd, Leaves.at])
          refine told_val (v := .bool c2) (hw := fun _ => rfl) (hr := fun vs W hW => by rw [HC2.out, HA.out]; clear hW; cases c1 <;> (go_simp; exact loose_val)) ?_
          simp only [Act.put, List.setIfInBounds_toArray, List.set_cons_zero, List.set_cons_succ, List.nil_append, List.cons_append, Nat.reduceAdd, Leaves.at]
          repeat (refine told_val (v := ?_) (fun _ => rfl) (fun vs W hW => ?_) ?_; rotate_left; (focus (have hf := HF.out W hW; clear hW; go_simp; exact loose_val)); simp only [Act.put, List.setIfInBounds_toArray, List.set_cons_zero, List.set_cons_succ, List.nil_append, List.cons_append, Nat.reduceAdd, Leaves.at])
          repeat (refine told_not (b := c2) (v := ?_) (fun _ => Bool.casesOn c2 rfl rfl) (fun hb vs W hW => ?_) ?_; rotate_left; (focus (have hf := HF.out W hW; clear hW; (try simp only [hb, cond_true, cond_false]); go_simp; exact loose_val)); simp only [Act.put, List.setIfInBounds_toArray, List.set_cons_zero, List.set_cons_succ, List.nil_append, List.cons_append, Nat.reduceAdd, Leaves.at])
          refine told_val (v := .bool c3) (hw := fun _ => rfl) (hr := fun vs W hW => by rw [HC3'.out, HB1.out]; clear hW; cases c2 <;> (go_simp; exact loose_val)) ?_
          simp only [Act.put, List.setIfInBounds_toArray, List.set_cons_zero, List.set_cons_succ, List.nil_append, List.cons_append, Nat.reduceAdd, Leaves.at]
          repeat (refine told_val (v := ?_) (fun _ => rfl) (fun vs W hW => ?_) ?_; rotate_left; (focus (have hf := HF.out W hW; clear hW; go_simp; exact loose_val)); simp only [Act.put, List.setIfInBounds_toArray, List.set_cons_zero, List.set_cons_succ, List.nil_append, List.cons_append, Nat.reduceAdd, Leaves.at])
          refine told_not (b := c3) (v := (.int .i64 (k : Int))) (fun _ => Bool.casesOn c3 rfl rfl) (fun hb vs W hW => by clear hW; subst hb; go_simp; exact loose_val) ?_
          simp only [Act.put, List.setIfInBounds_toArray, List.set_cons_zero, List.set_cons_succ, List.nil_append, List.cons_append, Nat.reduceAdd, Leaves.at]
          refine told_not (b := c3) (v := .bool true) (fun _ => Bool.casesOn c3 rfl rfl) (fun hb vs W hW => by clear hW; subst hb; go_simp; exact loose_val) ?_
          simp only [Act.put, List.setIfInBounds_toArray, List.set_cons_zero, List.set_cons_succ, List.nil_append, List.cons_append, Nat.reduceAdd, Leaves.at]
          refine told_not (b := c3) (v := .bool true) (fun _ => Bool.casesOn c3 rfl rfl) (fun hb vs W hW => by clear hW; subst hb; go_simp; exact loose_val) ?_
          simp only [Act.put, List.setIfInBounds_toArray, List.set_cons_zero, List.set_cons_succ, List.nil_append, List.cons_append, Nat.reduceAdd, Leaves.at]
          iterate 8 (refine told_not (b := c3) (v := ?_) (fun _ => Bool.casesOn c3 rfl rfl) (fun hb vs W hW => ?_) ?_; rotate_left; (focus (have hf := HF.out W hW; clear hW; (try simp only [hb, cond_true, cond_false]); go_simp; exact loose_val)); simp only [Act.put, List.setIfInBounds_toArray, List.set_cons_zero, List.set_cons_succ, List.nil_append, List.cons_append, Nat.reduceAdd, Leaves.at])
          refine told_not (b := c3) (v := .bool pg) (fun _ => Bool.casesOn c3 rfl rfl) (fun hb vs W hW => by rw [HPG.out]; clear hW; subst hb; go_simp; exact loose_val) ?_
          simp only [Act.put, List.setIfInBounds_toArray, List.set_cons_zero, List.set_cons_succ, List.nil_append, List.cons_append, Nat.reduceAdd, Leaves.at]
          refine told_not (b := c3) (v := .bool pg) (fun _ => Bool.casesOn c3 rfl rfl) (fun hb vs W hW => by clear hW; subst hb; go_simp; exact loose_val) ?_
          simp only [Act.put, List.setIfInBounds_toArray, List.set_cons_zero, List.set_cons_succ, List.nil_append, List.cons_append, Nat.reduceAdd, Leaves.at]
          refine told_val (v := .bool (c3 || pg)) (hw := fun _ => rfl) (hr := fun vs W hW => by clear hW; cases c3 <;> (go_simp; exact loose_val)) ?_
          simp only [Act.put, List.setIfInBounds_toArray, List.set_cons_zero, List.set_cons_succ, List.nil_append, List.cons_append, Nat.reduceAdd, Leaves.at]
          refine told_nil ?_
          intro vs W hW hok hap
          clear hap
          dsimp only
          have HB2 := hid (HWr.out.trans (since_below hW HWr.out.size))
          have g1' := (HF.out W hW).1.2
          clear hok hW HF
          generalize hcc : (c3 || pg) = cc at *
          cases cc with
          | true =>
            have HE2 : Hid (linksTo l n = false) := by
              show _ = _
              cases hq : linksTo l n with
              | false => rfl
              | true => have := linksTo_at hq hlt; rw [HC4.out] at this; cases this
            clear hcc
            go_wp2_with fail
            go_ret
            exact ⟨by rw [HE.out, HE2.out]; rfl, HB2.out⟩
          | false =>
            obtain ⟨_, hv1, hv2⟩ := HC3.out.1 (by cases c3 <;> simp_all)
            have HS2 : Hid (sumTo l (k + 1) = sumTo l k + v) := HS.out
            have HL2 : Hid (linksTo l (k + 1) = true) := by show _ = _; rw [HLT.out, LK.out, HC4.out]; rfl
            clear hcc
            go_wp2_with fail
            go_roundw
            case measure => simp [intOf] <;> omega
            case rel => exact ⟨k + 1, by omega, by go_num, by rw [HS2.out], HB2.out, HL2.out⟩
      · have hltz : ¬ (k : Int) < (n : Int) := by omega
        obtain rfl : k = n := by omega
        have HE2 : Hid (linksB l quota = decide (sumTo l k ≤ quota)) := by show _ = _; rw [HE.out, LK.out]; rfl
        go_wp2_with fail
        go_ret
        exact ⟨by rw [HE2.out]; rfl, BW.out⟩
end Go.Proofs.Ytndohmimcbmhdaa

/- thing.only. -/
set_option linter.unusedVariables false
set_option linter.unusedSimpArgs false
namespace Go.Proofs.Ytndohmimcbmhdaa
open Go.RowKit Go.Sort


set_option maxHeartbeats 8000000 in
set_option maxRecDepth 100000 in
theorem only137_5 (w : World) (t : Th) (p : Tl) (h : ThAt w t p) (hk : t.kind = 5) :
    Calls Try.prog 137 #[.agg (thC t)] w fun e w' => e = .returned (.bool (sameT (bare5 t) (bl0 p) t p)) ∧ Below w.heap.size w w' := by
  have mixed : Try.prog.follows .mixedOrders = true := by kernel_rfl
  have HB : Hid (Below w.heap.size w (w.alloc (.cells (thC t) 61))) := (Below.refl _ w).alloc (Nat.le_refl _) _
  have HP : Hid (Blk (w.alloc (.cells (thC t) 61)) w.heap.size 61 (thC t)) := Blk.new w 61 _
  have H := hid (ThAt.in_ h HB.out)
  have HKD := hid hk
  clear hk h
  go_enter Try.func137, Try.ntmps137
  go_wp2_with (refine wp_list_told 11 9 nil_ rfl (by decide) ?_)
  generalize w.alloc (.cells (thC t) 61) = wa at *
  have HF : Hid (∀ W, But nil_ wa W → _) := fun W hW => Blk.front (hW.blk HP.out (fun h => h))
  try simp only [List.take_succ_cons, List.take_zero, List.drop_succ_cons, List.drop_zero]
  repeat (refine told_val (v := ?_) (fun _ => rfl) (fun vs W hW => ?_) ?_; rotate_left; (focus (have hf := HF.out W hW; clear hW; go_simp; exact loose_val)); simp only [Act.put, List.setIfInBounds_toArray, List.set_cons_zero, List.set_cons_succ, List.nil_append, List.cons_append, Nat.reduceAdd, Leaves.at])
  refine told_nil ?_
  intro vs W1 hW1 hok hap
  clear hap
  dsimp only
  have hlt1 : w.heap.size < W1.heap.size := Nat.lt_of_lt_of_le HP.out.lt hW1.size
  go_wp2_with (first
    | (refine wpList_new61 (bare0 t) rfl rfl ?_
       have HB2 := hid ((HB.out.trans (since_below hW1 HB.out.size)).alloc (Nat.le_of_lt hlt1) (.cells (thC (bare0 t)) 61))
       have H2 : Hid (ThIn (W1.alloc (.cells (thC (bare0 t)) 61)) w.heap.size t p) := H.out.below ((since_below hW1 (Nat.le_of_lt HP.out.lt)).alloc (Nat.le_of_lt hlt1) _)
       have HKa : Hid (Blk (W1.alloc (.cells (thC (bare0 t)) 61)) w.heap.size 61 (thC t)) := (hW1.blk HP.out (fun h => h)).alloc _
       have HKb : Hid (Blk (W1.alloc (.cells (thC (bare0 t)) 61)) W1.heap.size 61 (thC (bare0 t))) := Blk.new W1 61 _
       clear hok hW1 HF H HB HP
       generalize W1.alloc (.cells (thC (bare0 t)) 61) = wb at *
       generalize W1.heap.size = gb at *
       have f1 : wb.cell? ⟨w.heap.size, 1, none⟩ = some (.int .i64 5) := by rw [← HKD.out]; exact (Blk.front HKa.out).2.1
       have f9 := Blk.back HKa.out)
    | (refine wpList_part (g := gb) (off := 18) (t := 61) (cur := (bare0 t).cells) [.int .u64 t.s0, .int .u64 t.s1, .int .u64 t.s2, .int .u64 t.s3, .int .u64 t.s4, .int .u64 t.s5, .int .u64 t.s6, .int .u64 t.s7] rfl rfl HKb.out rfl size59 (Nat.le_of_ble_eq_true rfl) (one_of rfl) ?_
       intro W3 hb3 hk3
       have HKa3 := hid (hb3.blk HKa.out (at_ne hlt1))
       have HKb3 : Hid (Blk W3 gb 61 (thC (bare5 t))) := hk3
       have HB4 := hid (hb3.done HB2.out (at_ge hlt1) (Nat.le_of_lt HKa.out.lt))
       have H4 := hid (H2.out.below (hb3.done (Below.refl w.heap.size wb) (at_ge hlt1) (Nat.le_of_lt HKa.out.lt)))
       clear hb3 hk3)
    | (refine wpList_load61 (bare5 t) gb rfl HKb3.out ?_)
    | (refine wpList_load61 t w.heap.size rfl HKa3.out ?_)
    | (go_at_call 90
       refine (same90 W3 (bare5 t) t (bl0 p) p (H4.out.at_ (Nat.le_of_lt HKa3.out.lt)).b5 (H4.out.at_ (Nat.le_of_lt HKa3.out.lt))).mono ?_
       rintro e w5 ⟨rfl, hb5⟩))
  go_ret
  exact ⟨rfl, HB4.out.trans (hb5.mono (Nat.le_of_lt HKa3.out.lt))⟩
end Go.Proofs.Ytndohmimcbmhdaa

/- thing.Right of a space. -/
set_option linter.unusedVariables false
set_option linter.unusedSimpArgs false
namespace Go.Proofs.Ytndohmimcbmhdaa
open Go.RowKit Go.Sort

def slotsL (t : Th) : List (Int × Int) := [(t.s0, t.s1), (t.s2, t.s3), (t.s4, t.s5), (t.s6, t.s7)]
theorem slots_at {w : World} {g : Nat} {t : Th} (h : Blk w g 61 (thC t)) : SlotsAt w w.heap.size (some ⟨g, 18, none⟩) 4 4 (slotsL t) :=
  ⟨rfl, by unfold maxLen; omega, fun _ => ⟨g, 18, rfl, h.lt, fun i x hx => by
    obtain ⟨b0, b1, b2, b3, b4, b5, b6, b7⟩ := Blk.back h
    unfold slotsL at hx
    match i, hx with
    | 0, hx => cases hx; exact ⟨b0, b1⟩
    | 1, hx => cases hx; exact ⟨b2, b3⟩
    | 2, hx => cases hx; exact ⟨b4, b5⟩
    | 3, hx => cases hx; exact ⟨b6, b7⟩
    | i + 4, hx => simp at hx⟩⟩
theorem slots_test (xs : List (Int × Int)) (W : World) : SlotsTest 167 #[] oddSlot xs W := fun W' hW' x _ => (test167 x W').mono fun e w' ⟨he, hb⟩ => ⟨he, hW'.trans (hb.mono hW'.size)⟩

set_option maxHeartbeats 4000000 in
set_option maxRecDepth 100000 in
theorem inside141_5 (w : World) (t : Th) (hk : t.kind = 5) : Calls Try.prog 141 #[.agg (thC t)] w fun e w' => e = .returned (.bool (!((slotsL t).any oddSlot))) ∧ Below w.heap.size w w' := by
  have HB : Hid (Below w.heap.size w (w.alloc (.cells (thC t) 61))) := (Below.refl _ w).alloc (Nat.le_refl _) _
  have HP : Hid (Blk (w.alloc (.cells (thC t) 61)) w.heap.size 61 (thC t)) := Blk.new w 61 _
  obtain ⟨q, hq⟩ : ∃ q, q = (slotsL t).any oddSlot := ⟨_, rfl⟩
  have HQ := hid hq
  have HX : Hid (∀ W, But nil_ (w.alloc (.cells (thC t) 61)) W → Calls Try.prog 166 #[.slice (some ⟨w.heap.size, 18, none⟩) 4 4, .func (.func 167) #[] #[]] W fun e w' => e = .returned (.bool q) ∧ Below W.heap.size W w') := fun W hW => by
    rw [hq]; exact containsFunc166 W _ 4 4 (slotsL t) 167 #[] oddSlot (slots_at (hW.blk HP.out (fun h => h))) (slots_test _ W) eg167
  have HK := hid hk
  rw [← hq]
  clear hk hq
  go_enter Try.func141, Try.ntmps141
  go_wp2_with (refine wp_list_told (l := { dst := some 5, op := _, type := _, pos := _, after := _, guard := _ } :: _) 2 2 nil_ rfl (by decide) ?_)
  generalize w.alloc (.cells (thC t) 61) = wa at *
  have HF : Hid (∀ W, But nil_ wa W → W.cell? ⟨w.heap.size, 1, none⟩ = some (.int .i64 5)) := fun W hW => by rw [← HK.out]; exact (Blk.front (hW.blk HP.out (fun h => h))).2.1
  try simp only [List.take_succ_cons, List.take_zero, List.drop_succ_cons, List.drop_zero]
  repeat (refine told_val (v := ?_) (fun _ => rfl) (fun vs W hW => ?_) ?_; rotate_left; (focus (have hf := HF.out W hW; clear hW; go_simp; exact loose_val)); simp only [Act.put, List.setIfInBounds_toArray, List.set_cons_zero, List.set_cons_succ, List.nil_append, List.cons_append, Nat.reduceAdd, Leaves.at])
  refine told_nil ?_
  intro vs W1 hW1 hok hap
  clear hap
  dsimp only
  have HW1 := hid hW1
  clear hok hW1 HF
  go_wp2_with (refine wp_list_told 5 5 nil_ rfl (by decide) ?_)
  have HF : Hid (∀ W, But nil_ W1 W → True) := fun W hW => trivial
  try simp only [List.take_succ_cons, List.take_zero, List.drop_succ_cons, List.drop_zero]
  iterate 2 (refine told_val (v := ?_) (fun _ => rfl) (fun vs W hW => ?_) ?_; rotate_left; (focus (have hf := HF.out W hW; clear hW; go_simp; exact loose_val)); simp only [Act.put, List.setIfInBounds_toArray, List.set_cons_zero, List.set_cons_succ, List.nil_append, List.cons_append, Nat.reduceAdd, Leaves.at])

  refine told_val (v := .bool q) (fun _ => rfl) (fun vs W hW => ?_) ?_
  · go_simp
    exact loose_call (HX.out W (HW1.out.trans hW))
  simp only [Act.put, List.setIfInBounds_toArray, List.set_cons_zero, List.set_cons_succ, List.nil_append, List.cons_append, Nat.reduceAdd, Leaves.at]
  repeat (refine told_val (v := ?_) (fun _ => rfl) (fun vs W hW => ?_) ?_; rotate_left; (focus (have hf := HF.out W hW; clear hW; go_simp; exact loose_val)); simp only [Act.put, List.setIfInBounds_toArray, List.set_cons_zero, List.set_cons_succ, List.nil_append, List.cons_append, Nat.reduceAdd, Leaves.at])
  refine told_nil ?_
  intro vs W hW hok hap
  clear hap
  dsimp only
  have HB2 := hid (HB.out.trans (since_below (HW1.out.trans hW) HB.out.size))
  clear hok hW
  go_wp2_with fail
  go_ret
  exact ⟨rfl, HB2.out⟩
end Go.Proofs.Ytndohmimcbmhdaa
