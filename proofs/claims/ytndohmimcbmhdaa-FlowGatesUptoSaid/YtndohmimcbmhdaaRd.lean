/- The document's Right, Set. -/
import Derived.Test.YtndohmimcbmhdaaRt
set_option linter.unusedVariables false
set_option linter.unusedSimpArgs false
namespace Go.Proofs.Ytndohmimcbmhdaa
open Go.RowKit Go.Sort

theorem exact_same (d : Int) (cs F : List (Int × Int)) : exactB d cs d F = eqB cs F := by unfold exactB eqB; simp
theorem any_snoc (p : Int × Int → Bool) (cs : List (Int × Int)) (k : Nat) (x : Int × Int) (h : cs[k]? = some x) : (cs.take (k + 1)).any p = ((cs.take k).any p || p x) := by
  rw [List.take_add_one, h]; simp
theorem any_hit {p : Int × Int → Bool} {cs : List (Int × Int)} {k : Nat} {x : Int × Int} (h : cs[k]? = some x) (hp : p x = true) : cs.any p = true := by
  rw [List.any_eq_true]; exact ⟨x, List.mem_of_getElem? h, hp⟩

set_option maxHeartbeats 4000000 in
set_option maxRecDepth 100000 in
theorem right52 (w : World) (d : Int) (A : Option Addr) (n c : Nat) (cs : List (Int × Int)) (h : CatsAt w w.heap.size A n c cs) :
    Calls Try.prog 52 #[.agg #[.int .i64 d, .slice A n c]] w fun e w' => e = .returned (.bool (rightB d cs)) ∧ Below w.heap.size w w' := by
  have mixed : Try.prog.follows .mixedOrders = true := by kernel_rfl
  have HB : Hid (Below w.heap.size w (w.alloc (.cells #[.int .i64 d, .slice A n c] 26))) := (Below.refl _ w).alloc (Nat.le_refl _) _
  have HP1 : Hid (Blk (w.alloc (.cells #[.int .i64 d, .slice A n c] 26)) w.heap.size 26 #[.int .i64 d, .slice A n c]) := Blk.new w 26 _
  have HC := hid ((h.below HB.out).more HB.out.size)
  have HLN := hid h.len
  have HR : Hid (rightB d cs = (decide (1 ≤ d ∧ d ≤ 4 ∧ cs.length ≤ 6) && (eqB cs (formL d cs) && !(cs.any oddC)))) := rfl
  clear h
  by_cases h1 : d < 1
  · have HE : Hid (rightB d cs = false) := by
      show _ = _
      rw [HR.out, decide_eq_false (by omega), Bool.false_and]
    go_enter Try.func52, Try.ntmps52
    go_wp2_with fail
    generalize w.alloc (.cells #[.int .i64 d, .slice A n c] 26) = wa at *
    have HF : Hid (∀ W, But nil_ wa W → W.cell? ⟨w.heap.size, 0, none⟩ = some (.int .i64 d) ∧ W.cell? ⟨w.heap.size, 1, none⟩ = some (.slice A n c)) := by
      intro W hW
      have r := hW.blk HP1.out (fun h => h)
      exact ⟨(Blk.cell r 0).trans rfl, (Blk.cell r 1).trans rfl⟩
    refine wp_region_told 21 nil_ mixed (by kernel_rfl) ?_
    simp only [List.take_succ_cons, List.take_zero, List.drop_succ_cons, List.drop_zero]
    repeat (first | (refine told_off (fun _ => rfl) ?_; simp only [Act.put, List.setIfInBounds_toArray, List.set_cons_zero, List.set_cons_succ, List.nil_append, List.cons_append, Nat.reduceAdd, Leaves.at]) | (refine told_val (v := ?_) (fun _ => rfl) (fun vs W hW => ?_) ?_; rotate_left; (focus (have hf := HF.out W hW; clear hW; go_simp; exact loose_val)); simp only [Act.put, List.setIfInBounds_toArray, List.set_cons_zero, List.set_cons_succ, List.nil_append, List.cons_append, Nat.reduceAdd, Leaves.at]))
    refine told_nil ?_
    intro vs W hW hok hap
    clear hap
    dsimp only
    have HB2 := hid (HB.out.trans (since_below hW HB.out.size))
    clear hok hW
    go_wp2_with fail
    go_ret
    exact ⟨by rw [HE.out]; rfl, HB2.out⟩
  · have b1 : decide (d < 1) = false := decide_eq_false h1
    by_cases h2 : 4 < d
    · have HE : Hid (rightB d cs = false) := by
        show _ = _
        rw [HR.out, decide_eq_false (by omega), Bool.false_and]
      go_enter Try.func52, Try.ntmps52
      go_wp2_with fail
      generalize w.alloc (.cells #[.int .i64 d, .slice A n c] 26) = wa at *
      have HF : Hid (∀ W, But nil_ wa W → W.cell? ⟨w.heap.size, 0, none⟩ = some (.int .i64 d) ∧ W.cell? ⟨w.heap.size, 1, none⟩ = some (.slice A n c)) := by
        intro W hW
        have r := hW.blk HP1.out (fun h => h)
        exact ⟨(Blk.cell r 0).trans rfl, (Blk.cell r 1).trans rfl⟩
      refine wp_region_told 21 nil_ mixed (by kernel_rfl) ?_
      simp only [List.take_succ_cons, List.take_zero, List.drop_succ_cons, List.drop_zero]
      repeat (first | (refine told_off (fun _ => rfl) ?_; simp only [Act.put, List.setIfInBounds_toArray, List.set_cons_zero, List.set_cons_succ, List.nil_append, List.cons_append, Nat.reduceAdd, Leaves.at]) | (refine told_val (v := ?_) (fun _ => rfl) (fun vs W hW => ?_) ?_; rotate_left; (focus (have hf := HF.out W hW; clear hW; go_simp; exact loose_val)); simp only [Act.put, List.setIfInBounds_toArray, List.set_cons_zero, List.set_cons_succ, List.nil_append, List.cons_append, Nat.reduceAdd, Leaves.at]))
      refine told_nil ?_
      intro vs W hW hok hap
      clear hap
      dsimp only
      have HB2 := hid (HB.out.trans (since_below hW HB.out.size))
      clear hok hW
      go_wp2_with fail
      go_ret
      exact ⟨by rw [HE.out]; rfl, HB2.out⟩
    · have b2 : decide (4 < d) = false := decide_eq_false h2
      by_cases h3 : 6 < n
      · have HE : Hid (rightB d cs = false) := by
          show _ = _
          rw [HR.out, decide_eq_false (by rw [HLN.out]; omega), Bool.false_and]
        have h4 : (6 : Int) < (n : Int) := by omega
        go_enter Try.func52, Try.ntmps52
        go_wp2_with fail
        generalize w.alloc (.cells #[.int .i64 d, .slice A n c] 26) = wa at *
        have HF : Hid (∀ W, But nil_ wa W → W.cell? ⟨w.heap.size, 0, none⟩ = some (.int .i64 d) ∧ W.cell? ⟨w.heap.size, 1, none⟩ = some (.slice A n c)) := by
          intro W hW
          have r := hW.blk HP1.out (fun h => h)
          exact ⟨(Blk.cell r 0).trans rfl, (Blk.cell r 1).trans rfl⟩
        refine wp_region_told 21 nil_ mixed (by kernel_rfl) ?_
        simp only [List.take_succ_cons, List.take_zero, List.drop_succ_cons, List.drop_zero]
        repeat (first | (refine told_off (fun _ => rfl) ?_; simp only [Act.put, List.setIfInBounds_toArray, List.set_cons_zero, List.set_cons_succ, List.nil_append, List.cons_append, Nat.reduceAdd, Leaves.at]) | (refine told_val (v := ?_) (fun _ => rfl) (fun vs W hW => ?_) ?_; rotate_left; (focus (have hf := HF.out W hW; clear hW; go_simp; exact loose_val)); simp only [Act.put, List.setIfInBounds_toArray, List.set_cons_zero, List.set_cons_succ, List.nil_append, List.cons_append, Nat.reduceAdd, Leaves.at]))
        refine told_nil ?_
        intro vs W hW hok hap
        clear hap
        dsimp only
        have HB2 := hid (HB.out.trans (since_below hW HB.out.size))
        clear hok hW
        go_wp2_with fail
        go_ret
        exact ⟨by rw [HE.out]; rfl, HB2.out⟩
      · have h4 : ¬ (6 : Int) < (n : Int) := by omega
        have b3 : decide ((6 : Int) < (n : Int)) = false := decide_eq_false h4
        have b4 : decide (6 < n) = false := decide_eq_false h3
        have HR2 : Hid (rightB d cs = (eqB cs (formL d cs) && !(cs.any oddC))) := by
          show _ = _
          rw [HR.out, decide_eq_true (by rw [HLN.out]; omega), Bool.true_and]
        generalize hF : formL d cs = F at *
        have HFF := hid hF
        clear hF HR
        go_enter Try.func52, Try.ntmps52
        go_wp2_with fail
        generalize w.alloc (.cells #[.int .i64 d, .slice A n c] 26) = wa at *
        have HF : Hid (∀ W, But nil_ wa W → W.cell? ⟨w.heap.size, 0, none⟩ = some (.int .i64 d) ∧ W.cell? ⟨w.heap.size, 1, none⟩ = some (.slice A n c)) := by
          intro W hW
          have r := hW.blk HP1.out (fun h => h)
          exact ⟨(Blk.cell r 0).trans rfl, (Blk.cell r 1).trans rfl⟩
        refine wp_region_told 21 nil_ mixed (by kernel_rfl) ?_
        simp only [List.take_succ_cons, List.take_zero, List.drop_succ_cons, List.drop_zero]
        repeat (first | (refine told_off (fun _ => rfl) ?_; simp only [Act.put, List.setIfInBounds_toArray, List.set_cons_zero, List.set_cons_succ, List.nil_append, List.cons_append, Nat.reduceAdd, Leaves.at]) | (refine told_val (v := ?_) (fun _ => rfl) (fun vs W hW => ?_) ?_; rotate_left; (focus (have hf := HF.out W hW; clear hW; go_simp; exact loose_val)); simp only [Act.put, List.setIfInBounds_toArray, List.set_cons_zero, List.set_cons_succ, List.nil_append, List.cons_append, Nat.reduceAdd, Leaves.at]))
        refine told_rel (LabR d F) LabR.stable (fun _ => rfl) (fun vs W hW hd => ?_) ?_
        · clear hd
          go_simp
          exact loose_callR (by rw [← HFF.out]; exact (form35 W d A n c cs (HC.out.since_ hW) (by omega)).mono fun _ _ h => h.lab)
        simp only [Act.put, List.setIfInBounds_toArray, List.set_cons_zero, List.set_cons_succ, List.nil_append, List.cons_append, Nat.reduceAdd, Leaves.at]
        refine told_val' (v := .bool (eqB cs F)) (fun _ => rfl) (fun vs W hW hd => ?_) ?_
        · obtain ⟨A1, n1, c1, e1, hT1⟩ := hd ⟨17, .data⟩ (by simp) rfl _ rfl (fun h => by cases h)
          clear hd
          have hcc := exact36 W d d A A1 n c n1 c1 cs F (HC.out.since_ hW) hT1
          rw [exact_same] at hcc
          have HCC := hid hcc
          clear hcc
          go_simp
          exact loose_call HCC.out
        simp only [Act.put, List.setIfInBounds_toArray, List.set_cons_zero, List.set_cons_succ, List.nil_append, List.cons_append, Nat.reduceAdd, Leaves.at]
        repeat (refine told_val (v := ?_) (fun _ => rfl) (fun vs W hW => ?_) ?_; rotate_left; (focus (have hf := HF.out W hW; clear hW; go_simp; exact loose_val)); simp only [Act.put, List.setIfInBounds_toArray, List.set_cons_zero, List.set_cons_succ, List.nil_append, List.cons_append, Nat.reduceAdd, Leaves.at])
        refine told_nil ?_
        intro vs W hW hok hap
        clear hap
        dsimp only
        have HB2 := hid (HB.out.trans (since_below hW HB.out.size))
        have HW := hid hW
        have HCW := hid (HC.out.since_ hW)
        obtain ⟨f1, f2⟩ := HF.out W hW
        clear hok hW
        generalize eqB cs F = q at *
        cases q with
        | false =>
          go_wp2_with fail
          go_ret
          exact ⟨by rw [HR2.out]; rfl, HB2.out⟩
        | true =>
          have h6 : n ≤ 6 := by omega
          go_wp2_with fail
          go_loopw [29] (fun vi wr => ∃ k : Nat, k ≤ n ∧ vi = .int .i64 k ∧ Hid (Since W wr) ∧ Hid ((cs.take k).any oddC = false)) (fun vi _ => n - (intOf vi).toNat)
          case atStart => exact ⟨0, Nat.zero_le _, rfl, But.refl _ _, rfl⟩
          case round =>
            obtain ⟨k, hk, rfl, BW, AN⟩ := hrel
            by_cases hlt : k < n
            · have hltz : (k : Int) < (n : Int) := by omega
              obtain ⟨b, off, i, v, rfl, hbB, hx, c0, c1⟩ := (HCW.out.since_ BW.out).at2_ hlt
              have HX := hid hx
              have HAS := hid (any_snoc oddC cs k _ hx)
              have HBr := hid (HB2.out.trans (since_below (BW.out.alloc (.cells #[.int .u64 i, .int .i64 v] 32)) HB2.out.size))
              clear hx
              by_cases g1 : i < 1
              · have HE : Hid (rightB d cs = false) := by show _ = _; rw [HR2.out, any_hit HX.out (decide_eq_true (.inl g1))]; rfl
                go_wp2_with fail
                go_ret
                exact ⟨by rw [HE.out]; rfl, HBr.out⟩
              · by_cases g2 : 2305843009213693951 < i
                · have HE : Hid (rightB d cs = false) := by show _ = _; rw [HR2.out, any_hit HX.out (decide_eq_true (.inr (.inl g2)))]; rfl
                  go_wp2_with fail
                  go_ret
                  exact ⟨by rw [HE.out]; rfl, HBr.out⟩
                · by_cases g3 : v < 0
                  · have HE : Hid (rightB d cs = false) := by show _ = _; rw [HR2.out, any_hit HX.out (decide_eq_true (.inr (.inr (.inl g3))))]; rfl
                    go_wp2_with fail
                    go_ret
                    exact ⟨by rw [HE.out]; rfl, HBr.out⟩
                  · by_cases g4 : 4 < v
                    · have HE : Hid (rightB d cs = false) := by show _ = _; rw [HR2.out, any_hit HX.out (decide_eq_true (.inr (.inr (.inr g4))))]; rfl
                      go_wp2_with fail
                      go_ret
                      exact ⟨by rw [HE.out]; rfl, HBr.out⟩
                    · have HO : Hid (oddC (i, v) = false) := decide_eq_false (by simp only; omega)
                      go_wp2_with fail
                      go_roundw
                      case measure => simp [intOf] <;> omega
                      case rel => exact ⟨k + 1, by omega, by go_num, BW.out.alloc _, by rw [HAS.out, AN.out, HO.out]; rfl⟩
            · have hltz : ¬ (k : Int) < (n : Int) := by omega
              have HE : Hid (rightB d cs = true) := by
                show _ = _
                have := AN.out
                rw [List.take_of_length_le (by rw [HLN.out]; omega)] at this
                rw [HR2.out, this]; rfl
              have HBr := hid (HB2.out.trans (since_below BW.out HB2.out.size))
              go_wp2_with fail
              go_ret
              exact ⟨by rw [HE.out]; rfl, HBr.out⟩

set_option maxHeartbeats 2000000 in
set_option maxRecDepth 100000 in
theorem set50 (w : World) (d id lv : Int) (A : Option Addr) (n c : Nat) (cs : List (Int × Int)) (h : CatsAt w w.heap.size A n c cs) (hn : n + 1 ≤ 8796093022208) :
    Calls Try.prog 50 #[.agg #[.int .i64 d, .slice A n c], .int .u64 id, .int .i64 lv] w fun e w' => RetOwn d (formL d ((id, lv) :: cs)) w e w' := by
  have mixed : Try.prog.follows .mixedOrders = true := by kernel_rfl
  obtain ⟨i0, hi0, hz0, hz1, hz2⟩ := info_parts cat_info
  obtain ⟨q1, q2, q3, q4⟩ := three_blk w #[.int .i64 d, .slice A n c] #[.int .i64 0, .slice none 0 0] #[.int .u64 id, .int .i64 lv] 26 26 32
  have HB := hid q1
  have HP1 := hid q2
  have HP2 := hid q3
  have HP3 := hid q4
  have HR := hid ((h.below q1).reads)
  have HLN := hid h.len
  have hO : World.ownsRow (((w.alloc (.cells #[.int .i64 d, .slice A n c] 26)).alloc (.cells #[.int .i64 0, .slice none 0 0] 26)).alloc (.cells #[.int .u64 id, .int .i64 lv] 32)) (w.heap.size + 1 + 1) 32 2 (.slice (some ⟨w.heap.size + 1 + 1, 0, none⟩) 1 1) 1 [.int .u64 id, .int .i64 lv] :=
    ⟨rfl, .inr ⟨w.heap.size + 1 + 1, 1, #[.int .u64 id, .int .i64 lv], rfl, Nat.le_refl _, q4, Nat.le_refl _, by unfold maxLen; omega, rfl, rfl⟩⟩
  have HO := hid hO
  clear h q1 q2 q3 q4 hO
  go_enter Try.func50, Try.ntmps50
  go_wp2_with fail
  generalize ((w.alloc (.cells #[.int .i64 d, .slice A n c] 26)).alloc (.cells #[.int .i64 0, .slice none 0 0] 26)).alloc (.cells #[.int .u64 id, .int .i64 lv] 32) = wa at *
  have hsa := HP3.out.lt
  have HF : Hid (∀ W, But (fun i => i = w.heap.size + 1 + 1) wa W → W.cell? ⟨w.heap.size, 0, none⟩ = some (.int .i64 d) ∧ W.cell? ⟨w.heap.size, 1, none⟩ = some (.slice A n c)) := by
    intro W hW
    have r := hW.blk HP1.out (by omega)
    exact ⟨(Blk.cell r 0).trans rfl, (Blk.cell r 1).trans rfl⟩
  refine wp_region_told 6 (fun i => i = w.heap.size + 1 + 1) mixed (by kernel_rfl) ?_
  simp only [List.take_succ_cons, List.take_zero, List.drop_succ_cons, List.drop_zero]
  repeat (refine told_val (v := ?_) (fun _ => rfl) (fun vs W hW => ?_) ?_; rotate_left; (focus (have hf := HF.out W hW; clear hW; go_simp; exact loose_val)); simp only [Act.put, List.setIfInBounds_toArray, List.set_cons_zero, List.set_cons_succ, List.nil_append, List.cons_append, Nat.reduceAdd, Leaves.at])
  refine told_own (fun W v => OwnCats W (w.heap.size + 1 + 1) v ((id, lv) :: cs)) ownCats_own rfl (fun _ => rfl) (fun vs W hW hd => ?_) ?_
  · have ho : World.ownsRow W (w.heap.size + 1 + 1) 32 2 (.slice (some ⟨w.heap.size + 1 + 1, 0, none⟩) 1 1) 1 [.int .u64 id, .int .i64 lv] := World.ownsRow.kept (row := none) HO.out (only_of_below (since_below hW (Nat.le_refl _)) none) (.inr (by simp [Value.ownBlock]))
    refine loose_append W (.tmp 14) (.tmp 16) 23 rfl (w.heap.size + 1 + 1) 32 i0 _ 2 16 Try.underlying23 hi0 hz0 hz1 hz2 rfl (by omega) (.slice (some ⟨w.heap.size + 1 + 1, 0, none⟩) 1 1) 1 [.int .u64 id, .int .i64 lv] rfl ho w.heap.size A n c (flat cs) rfl (HR.out.below (since_below hW HB.out.size)) (flat_one cs) (by unfold maxLen; omega) (by omega) (by have := hW.size; omega) ?_
    intro v' w' ho' hg _
    exact ⟨(But.refl _ W).grown hg (fun g e => .inl (by simpa [Value.ownBlock] using e.symm)), OwnCats.of_own (by rw [show ((id, lv) :: cs).length = 1 + n by rw [List.length_cons, HLN.out]; omega]; exact ho'), trivial⟩
  simp only [Act.put, List.setIfInBounds_toArray, List.set_cons_zero, List.set_cons_succ, List.nil_append, List.cons_append, Nat.reduceAdd, Leaves.at]
  refine told_nil ?_
  intro vs W hW hok hap
  clear hap
  dsimp only
  have hv := hok 5 _ rfl rfl
  have HB2 : Hid (Below w.heap.size w W) := hW.done HB.out (fun k hk => by subst hk; omega) (by omega)
  obtain ⟨A1, n1, c1, e1, hT1⟩ := OwnCats.at_ hv
  have HT1 := hid hT1
  have HK2 := hid (hW.blk HP2.out (by omega))
  have hsW := hW.size
  clear hok hW hv hT1
  rw [e1]
  clear e1
  go_wp2_with fail
  refine (form35 W d A1 n1 c1 ((id, lv) :: cs) HT1.out (by have q1 := HT1.out.len; have q2 := HLN.out; rw [List.length_cons] at q1; omega)).mono ?_
  rintro e w3 ⟨A3, n3, c3, rfl, hv3, hb3⟩
  have HK3 := hid (HK2.out.below hb3 HK2.out.lt)
  obtain ⟨⟨z0, z1⟩, z2, z3⟩ := label_zero HK3.out
  have HV3 := hid hv3
  have HB4 := hid (HB2.out.trans (hb3.mono HB2.out.size))
  clear hv3 hb3
  go_wp2_with fail
  refine bodyPost_ret (label_run (label_put HK3.out _ _) rfl _ rfl) rfl ?_
  exact lab_own_end HV3.out (by omega) (by omega) HB4.out
end Go.Proofs.Ytndohmimcbmhdaa
