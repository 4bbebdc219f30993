/- The document's Copy. -/
import Derived.Test.YtndohmimcbmhdaaAp
set_option linter.unusedVariables false
set_option linter.unusedSimpArgs false
namespace Go.Proofs.Ytndohmimcbmhdaa
open Go.RowKit Go.Sort

set_option maxHeartbeats 2000000 in
set_option maxRecDepth 100000 in
theorem copy39 (w : World) (d : Int) (A : Option Addr) (n c : Nat) (cs : List (Int × Int)) (h : CatsAt w w.heap.size A n c cs) (hn : n ≤ 8796093022208) :
    Calls Try.prog 39 #[.agg #[.int .i64 d, .slice A n c]] w fun e w' => RetOwn d cs w e w' := by
  have mixed : Try.prog.follows .mixedOrders = true := by kernel_rfl
  obtain ⟨i0, hi0, hz0, hz1, hz2⟩ := info_parts cat_info
  obtain ⟨q1, q2, q3⟩ := two_blk w #[.int .i64 d, .slice A n c] #[.int .i64 0, .slice none 0 0] 26 26
  have HB := hid q1
  have HP1 := hid q2
  have HP2 := hid q3
  have HR := hid ((h.below q1).reads)
  have HLN := hid h.len
  clear h q1 q2 q3
  go_enter Try.func39, Try.ntmps39
  go_wp2_with fail
  generalize (w.alloc (.cells #[.int .i64 d, .slice A n c] 26)).alloc (.cells #[.int .i64 0, .slice none 0 0] 26) = wa at *
  have HF : Hid (∀ W, But (over wa.heap.size) wa W → W.cell? ⟨w.heap.size, 0, none⟩ = some (.int .i64 d) ∧ W.cell? ⟨w.heap.size, 1, none⟩ = some (.slice A n c)) := by
    intro W hW
    have r := HP1.out.below hW.over_below HP1.out.lt
    exact ⟨(Blk.cell r 0).trans rfl, (Blk.cell r 1).trans rfl⟩
  refine wp_region_told 6 (over wa.heap.size) mixed (by kernel_rfl) ?_
  simp only [List.take_succ_cons, List.take_zero, List.drop_succ_cons, List.drop_zero]
  repeat (refine told_val (v := ?_) (fun _ => rfl) (fun vs W hW => ?_) ?_; rotate_left; (focus (have hf := HF.out W hW; clear hW; go_simp; exact loose_val)); simp only [Act.put, List.setIfInBounds_toArray, List.set_cons_zero, List.set_cons_succ, List.nil_append, List.cons_append, Nat.reduceAdd, Leaves.at])
  refine told_frail (fun W v => World.ownsRow W wa.heap.size 32 2 v 0 []) ownRow_frail (fun _ => rfl) (fun vs W hW hd => ?_) ?_
  · go_simp
    exact loose_frail ((But.refl _ _).alloc _) (World.ownsRow_made W #[] 0 hW.size (by simp [maxLen]) rfl)
  simp only [Act.put, List.setIfInBounds_toArray, List.set_cons_zero, List.set_cons_succ, List.nil_append, List.cons_append, Nat.reduceAdd, Leaves.at]
  repeat (refine told_val (v := ?_) (fun _ => rfl) (fun vs W hW => ?_) ?_; rotate_left; (focus (have hf := HF.out W hW; clear hW; go_simp; exact loose_val)); simp only [Act.put, List.setIfInBounds_toArray, List.set_cons_zero, List.set_cons_succ, List.nil_append, List.cons_append, Nat.reduceAdd, Leaves.at])
  refine told_own (fun W v => OwnCats W wa.heap.size v cs) ownCats_own rfl (fun _ => rfl) (fun vs W hW hd => ?_) ?_
  · have hv := hd ⟨2, .data⟩ (by simp) rfl _ rfl (fun _ => rfl)
    refine loose_append W (.tmp 5) (.tmp 7) 23 rfl wa.heap.size 32 i0 _ 2 16 Try.underlying23 hi0 hz0 hz1 hz2 rfl (by omega) (vs 2) 0 [] rfl hv w.heap.size A n c (flat cs) rfl (HR.out.below ((since_below hW (Nat.le_refl _)).mono HB.out.size)) (flat_one cs) (by unfold maxLen; omega) (by omega) hW.size ?_
    intro v' w' ho hg _
    exact ⟨(But.refl _ W).grown hg (fun g e => .inl (World.ownsRow.lt hv g e).1), OwnCats.of_own (by rw [HLN.out]; simpa using ho), trivial⟩
  simp only [Act.put, List.setIfInBounds_toArray, List.set_cons_zero, List.set_cons_succ, List.nil_append, List.cons_append, Nat.reduceAdd, Leaves.at]
  refine told_nil ?_
  intro vs W hW hok hap
  clear hap
  dsimp only
  have hv := hok 5 _ rfl rfl
  have HW := hid (hW.over_below)
  have HB2 := hid (HB.out.trans (hW.over_below.mono HB.out.size))
  have HV := hid hv
  obtain ⟨A1, n1, c1, e1, hT1⟩ := OwnCats.at_ hv
  have HT1 := hid hT1
  have HK := hid (HP2.out.below hW.over_below HP2.out.lt)
  obtain ⟨⟨z0, z1⟩, z2, z3⟩ := label_zero HK.out
  have hlt := HP2.out.lt
  clear hok hW hv hT1
  rw [e1] at HV ⊢
  clear e1
  go_wp2_with fail
  refine bodyPost_ret (label_run (label_put HK.out _ _) rfl _ rfl) rfl ?_
  exact lab_own_end HV.out (by omega) hlt HB2.out
end Go.Proofs.Ytndohmimcbmhdaa
