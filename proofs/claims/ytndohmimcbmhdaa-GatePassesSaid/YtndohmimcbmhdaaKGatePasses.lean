/-
  GatePasses: called with any values of its parameters, the law answers true, and of what lay in memory nothing has turned. No condition.
-/
import Derived.Test.YtndohmimcbmhdaaRows
import Derived.Test.YtndohmimcbmhdaaMz0
import Derived.Test.YtndohmimcbmhdaaMz2
import Derived.Test.YtndohmimcbmhdaaNa0
import Derived.Test.YtndohmimcbmhdaaNb3
set_option linter.unusedVariables false
set_option linter.unusedSimpArgs false
namespace Go.Proofs.Ytndohmimcbmhdaa.lawGatePasses
open Go.ChangeShapes Go.WideShapes Go.ChangeAt Go.RowKit Go.Sort

theorem own : ownKnob Try.prog.godebug = none := by kernel_rfl
theorem laidOut : laidOutB Try.prog = true := by kernel_rfl


set_option maxHeartbeats 16000000 in
set_option maxRecDepth 100000 in
theorem walk (t0 : Th) (p0 : Tl) (t1 : Th) (p1 : Tl) (d2 : Int) (A2 : Option Addr) (n2 : Nat) (c2 : Nat) (l2 : List (Int × Int)) (e2 : Int) (E2 : Option Addr) (m2 : Nat) (k2 : Nat) (r2 : List (Int × Int)) (w : World) (x0 : ThAt w t0 p0) (y0 : ThR t0) (x1 : ThAt w t1 p1) (y1 : ThR t1) (t2 : CatsAt w w.heap.size A2 n2 c2 l2) (u2 : CatsAt w w.heap.size E2 m2 k2 r2) (z0 : ThZ t0) (z1 : ThZ t1) (z2 : n2 ≤ 8796093022207) (y2 : m2 ≤ 8796093022207) :
    Calls Try.prog 22 #[.agg (thC t0), .agg (thC t1), .agg #[.int .i64 d2, .slice A2 n2 c2, .int .i64 e2, .slice E2 m2 k2]] w fun e w' => e = .returned (.bool true) ∧ Below w.heap.size w w' := by
  have mixed : Try.prog.follows .mixedOrders = true := by kernel_rfl
  obtain ⟨p1, p2, p3, p4⟩ := three_blk w (thC t0) (thC t1) #[.int .i64 d2, .slice A2 n2 c2, .int .i64 e2, .slice E2 m2 k2] 61 61 43
  have HB0 := hid p1
  have HT0 := hid p2
  have HG0 := hid p3
  have HN0 := hid p4
  have H0 := hid (ThAt.below x0 p1)
  have H1 := hid (ThAt.below x1 p1)
  have HTN := hid ((t2.below p1).more p1.size)
  have HUN := hid ((u2.below p1).more p1.size)
  have HR := hid y0
  have HR1 := hid y1
  have HZ := hid z0
  have HZ1 := hid z1
  have HZN := hid z2
  have HZM := hid y2
  clear p1 p2 p3 p4 x0 y0 z0 x1 y1 z1 t2 u2 z2 y2
  by_cases hk : t0.kind = 2
  · have HK := hid hk
    have HK0 : Hid (∀ W, Blk W w.heap.size 61 (thC t0) → W.cell? ⟨w.heap.size, 1, none⟩ = some (.int .i64 2)) := fun W h => by rw [← HK.out]; exact (Blk.front h).2.1
    clear hk
    by_cases hk1 : t1.kind = 3
    · have HK1 := hid hk1
      have HK2 : Hid (∀ W, Blk W (w.heap.size + 1) 61 (thC t1) → W.cell? ⟨w.heap.size + 1, 1, none⟩ = some (.int .i64 3)) := fun W h => by rw [← HK1.out]; exact (Blk.front h).2.1
      clear hk1
      obtain ⟨r, hr⟩ : ∃ r, r = rref_2 t0 p0 := ⟨_, rfl⟩
      have HRR := hid hr
      clear hr
      have HREF : Hid (∀ W, ThAt W t0 p0 → Calls Try.prog 71 #[.agg (thC t0)] W fun e w' => e = .returned (.bool r) ∧ Below W.heap.size W w') := fun W hW => by rw [HRR.out]; exact ref71_2 W t0 p0 hW HR.out HK.out
      obtain ⟨r1, hr1⟩ : ∃ r, r = rref_3 t1 p1 := ⟨_, rfl⟩
      have HRR1 := hid hr1
      clear hr1
      have HREF1 : Hid (∀ W, ThAt W t1 p1 → Calls Try.prog 71 #[.agg (thC t1)] W fun e w' => e = .returned (.bool r1) ∧ Below W.heap.size W w') := fun W hW => by rw [HRR1.out]; exact ref71_3 W t1 p1 hW HR1.out HK1.out
      cases r with
      | false =>
        go_enter Try.func22, Try.ntmps22
        go_wp2_with (first
          | (go_at_call 77
             with_reducible refine (alive77 _).mono ?_
             rintro e W1 ⟨rfl, hb1⟩
             have S1 := hid ((But.refl nil_ _).below hb1)
             have HB1 := hid (HB0.out.trans (hb1.mono HB0.out.size))
             have f1 := (HK0.out _ (S1.out.blk HT0.out (fun h => h)))
             have f2 := (HK2.out _ (S1.out.blk HG0.out (fun h => h)))
             clear hb1)
          | ((with_reducible refine wpList_load61g t0 w.heap.size ?_ ?_ (S1.out.blk HT0.out (fun h => h)) ?_); exact rfl; exact rfl)
          | (go_at_call 71
             with_reducible refine (HREF.out _ (H0.out.since_ S1.out)).mono ?_
             rintro e W2 ⟨rfl, hb2⟩
             have S2 := hid (S1.out.below hb2)
             have HB2 := hid (HB1.out.trans (hb2.mono HB1.out.size))
             clear hb2 f1 f2)
          | ((with_reducible refine wpList_load61g t1 (w.heap.size + 1) ?_ ?_ (S2.out.blk HG0.out (fun h => h)) ?_); exact rfl; exact rfl)
          | (go_at_call 71
             with_reducible refine (HREF1.out _ (H1.out.since_ S2.out)).mono ?_
             rintro e W3 ⟨rfl, hb3⟩
             have S3 := hid (S2.out.below hb3)
             have HB3 := hid (HB2.out.trans (hb3.mono HB2.out.size))
             clear hb3)
          | fail)
        go_ret
        exact ⟨rfl, HB2.out⟩
      | true =>
        cases r1 with
        | false =>
          go_enter Try.func22, Try.ntmps22
          go_wp2_with (first
            | (go_at_call 77
               with_reducible refine (alive77 _).mono ?_
               rintro e W1 ⟨rfl, hb1⟩
               have S1 := hid ((But.refl nil_ _).below hb1)
               have HB1 := hid (HB0.out.trans (hb1.mono HB0.out.size))
               have f1 := (HK0.out _ (S1.out.blk HT0.out (fun h => h)))
               have f2 := (HK2.out _ (S1.out.blk HG0.out (fun h => h)))
               clear hb1)
            | ((with_reducible refine wpList_load61g t0 w.heap.size ?_ ?_ (S1.out.blk HT0.out (fun h => h)) ?_); exact rfl; exact rfl)
            | (go_at_call 71
               with_reducible refine (HREF.out _ (H0.out.since_ S1.out)).mono ?_
               rintro e W2 ⟨rfl, hb2⟩
               have S2 := hid (S1.out.below hb2)
               have HB2 := hid (HB1.out.trans (hb2.mono HB1.out.size))
               clear hb2 f1 f2)
            | ((with_reducible refine wpList_load61g t1 (w.heap.size + 1) ?_ ?_ (S2.out.blk HG0.out (fun h => h)) ?_); exact rfl; exact rfl)
            | (go_at_call 71
               with_reducible refine (HREF1.out _ (H1.out.since_ S2.out)).mono ?_
               rintro e W3 ⟨rfl, hb3⟩
               have S3 := hid (S2.out.below hb3)
               have HB3 := hid (HB2.out.trans (hb3.mono HB2.out.size))
               clear hb3)
            | fail)
          go_ret
          exact ⟨rfl, HB3.out⟩
        | true =>
          have H2 := hid (right2_of HRR.out.symm)
          have H3 := hid (right3_of HRR1.out.symm)
          have HSL : Hid (Slim t0) := ⟨by have := H2.out.len1; have := H0.out.c1.len; omega, by have := H2.out.len2; have := H0.out.c2.len; omega⟩
          have HSL1 : Hid (Slim t1) := ⟨by have := right_len H3.out.right; have := H1.out.c1.len; omega, by have := right_len (pure_right H3.out.clean); have := H1.out.c2.len; omega⟩
          have HLK : Hid (t0.links.n = 0 ∧ t0.data.n = 0) := by
            have a := H0.out.lk.len
            have b := H0.out.dt.len
            rw [H2.out.bare.links] at a
            rw [H2.out.bare.data] at b
            exact ⟨a.symm, b.symm⟩
          obtain ⟨ok, hok0⟩ : ∃ ok, ok = thruB t0 p0 t1 p1 d2 l2 e2 r2 := ⟨_, rfl⟩
          have HRT := hid (thruO_right (d := d2) (l := l2) (e := e2) (r := r2) H2.out H3.out)
          have HRO := hid (thruO_R (d := d2) (l := l2) (e := e2) (r := r2) H2.out H3.out HR.out HR1.out)
          rw [← hok0] at HRT HRO
          have HTH : Hid (∀ W (S : Nat → Prop) (a b c d g1 g2 g3 g4 : Sl), ThS S W (t0.slices a b c d) p0 → ThAt W (t1.slices g1 g2 g3 g4) p1 → CatsAt W W.heap.size A2 n2 c2 l2 → CatsAt W W.heap.size E2 m2 k2 r2 → Calls Try.prog 78 #[.agg (thC (t0.slices a b c d)), .agg (thC (t1.slices g1 g2 g3 g4)), .agg #[.int .i64 d2, .slice A2 n2 c2, .int .i64 e2, .slice E2 m2 k2]] W fun x w' => RetS S (thruO ok t0 t1 d2 e2) (thruP ok p0 l2 r2) (thruE ok) W x w') := fun W S a b c d g1 g2 g3 g4 hs hg tn un => by
            have q1 : p0.l1.length = a.n := hs.at_.c1.len
            have q2 : p0.l2.length = b.n := hs.at_.c2.len
            have q3 : p0.links.length = c.n := hs.at_.lk.len
            have q4 : p0.data.length = d.n := hs.at_.dt.len
            have q5 : p1.l1.length = g1.n := hg.c1.len
            have q6 : p1.l2.length = g2.n := hg.c2.len
            have w1 := H2.out.len1
            have w2 := H2.out.len2
            have w3 := right_len H3.out.right
            have w4 := right_len (pure_right H3.out.clean)
            rw [H2.out.bare.links] at q3
            rw [H2.out.bare.data] at q4
            simp only [List.length_nil] at q3 q4
            have := through78 W (t0.slices a b c d) (t1.slices g1 g2 g3 g4) p0 p1 d2 A2 n2 c2 l2 e2 E2 m2 k2 r2 S hs hs.at_ hg ⟨by show a.n ≤ _; omega, by show b.n ≤ _; omega⟩ ⟨by show g1.n ≤ _; omega, by show g2.n ≤ _; omega⟩ (by show c.n ≤ _; omega) (by show d.n ≤ _; omega) tn un HZN.out HZM.out
            rw [show thruB (t0.slices a b c d) p0 (t1.slices g1 g2 g3 g4) p1 d2 l2 e2 r2 = ok from hok0.symm] at this
            refine this.mono fun x w' ⟨a', b', c', d', he, ht, hb⟩ => ⟨a', b', c', d', ?_, ?_, hb⟩
            · rw [he]; unfold thruO thruE; cases ok <;> rfl
            · refine ThS.mono (S := fun k => (ok = false ∧ S k) ∨ (W.heap.size ≤ k ∧ k < w'.heap.size)) ?_ (fun k hk => hk.elim (fun h => .inl h.2) .inr)
              revert ht
              unfold thruO thruP
              cases ok <;> exact fun h => h
          have HTH' : Hid (∀ W, ThAt W t0 p0 → ThAt W t1 p1 → CatsAt W W.heap.size A2 n2 c2 l2 → CatsAt W W.heap.size E2 m2 k2 r2 → Calls Try.prog 79 #[.agg (thC t0), .agg (thC t1), .agg #[.int .i64 d2, .slice A2 n2 c2], .agg #[.int .i64 e2, .slice E2 m2 k2]] W fun x w' => ∃ a b c d : Sl, x = .returned (.tuple #[.agg (thC ((thruO ok t0 t1 d2 e2).slices a b c d)), .int .i64 (thruE ok)]) ∧ ThAt w' ((thruO ok t0 t1 d2 e2).slices a b c d) (thruP ok p0 l2 r2) ∧ Below W.heap.size W w') := fun W ha hg tn un => by
            have := through79 W t0 t1 p0 p1 d2 A2 n2 c2 l2 e2 E2 m2 k2 r2 ha hg HSL.out HSL1.out tn un HZN.out HZM.out
            rw [← hok0] at this
            refine this.mono fun x w' ⟨a', b', c', d', he, ht, hb⟩ => ⟨a', b', c', d', ?_, ?_, hb⟩
            · rw [he]; unfold thruO thruE; cases ok <;> rfl
            · revert ht
              unfold thruO thruP
              cases ok <;> exact fun h => h.at_
          have HKT : Hid ((thruO ok t0 t1 d2 e2).kind = 2) := by show _ = _; unfold thruO; cases ok <;> exact HK.out
          clear hok0
          generalize thruO ok t0 t1 d2 e2 = T at *
          generalize thruP ok p0 l2 r2 = P at *
          generalize thruE ok = N at *
          have HREF2 : Hid (∀ W (a b c d : Sl), ThAt W (T.slices a b c d) P → Calls Try.prog 71 #[.agg (thC (T.slices a b c d))] W fun e w' => e = .returned (.bool true) ∧ Below W.heap.size W w') := fun W a b c d hW => by
            have := ref71_2 W (T.slices a b c d) P hW (slices_R HRO.out _ _ _ _) HKT.out
            rwa [show rref_2 (T.slices a b c d) P = true from HRT.out.to] at this
          go_enter Try.func22, Try.ntmps22
          go_wp2_with (first
            | (go_at_call 77
               with_reducible refine (alive77 _).mono ?_
               rintro e W1 ⟨rfl, hb1⟩
               have S1 := hid ((But.refl nil_ _).below hb1)
               have HB1 := hid (HB0.out.trans (hb1.mono HB0.out.size))
               have f1 := (HK0.out _ (S1.out.blk HT0.out (fun h => h)))
               have f2 := (HK2.out _ (S1.out.blk HG0.out (fun h => h)))
               clear hb1)
            | ((with_reducible refine wpList_load61g t0 w.heap.size ?_ ?_ (S1.out.blk HT0.out (fun h => h)) ?_); exact rfl; exact rfl)
            | (go_at_call 71
               with_reducible refine (HREF.out _ (H0.out.since_ S1.out)).mono ?_
               rintro e W2 ⟨rfl, hb2⟩
               have S2 := hid (S1.out.below hb2)
               have HB2 := hid (HB1.out.trans (hb2.mono HB1.out.size))
               clear hb2 f1 f2)
            | ((with_reducible refine wpList_load61g t1 (w.heap.size + 1) ?_ ?_ (S2.out.blk HG0.out (fun h => h)) ?_); exact rfl; exact rfl)
            | (go_at_call 71
               with_reducible refine (HREF1.out _ (H1.out.since_ S2.out)).mono ?_
               rintro e W3 ⟨rfl, hb3⟩
               have S3 := hid (S2.out.below hb3)
               have HB3 := hid (HB2.out.trans (hb3.mono HB2.out.size))
               clear hb3)
            | ((with_reducible refine wpList_load61 t0 w.heap.size ?_ (S3.out.blk HT0.out (fun h => h)) ?_); exact rfl)
            | (go_at_call 72
               with_reducible refine (copy72 _ t0 p0 (H0.out.since_ S3.out) (Nat.le_succ_of_le HZ.out.z1) (Nat.le_succ_of_le HZ.out.z2) (Nat.le_succ_of_le HZ.out.z3) HZ.out.z4).mono ?_
               rintro e W4 ⟨o1, o2, o3, o4, rfl, ha, hb, hc, hd, hb4⟩
               have S4 := hid (S3.out.below hb4)
               have HB4 := hid (HB3.out.trans (hb4.mono HB3.out.size))
               have HO4 := hid (show ThAt W4 (t0.slices o1 o2 o3 o4) p0 from ⟨ha.1, hb.1, hc.1, hd.1⟩)
               clear ha hb hc hd hb4)
            | ((with_reducible refine wpList_new61 (t0.slices o1 o2 o3 o4) ?_ ?_ ?_)
               exact rfl
               exact rfl
               have S5 := hid (S4.out.alloc (.cells (thC (t0.slices o1 o2 o3 o4)) 61))
               have HB5 := hid (HB4.out.alloc HB4.out.size (.cells (thC (t0.slices o1 o2 o3 o4)) 61))
               have HG5 : Hid (Blk (W4.alloc (.cells (thC (t0.slices o1 o2 o3 o4)) 61)) W4.heap.size 61 (thC (t0.slices o1 o2 o3 o4))) := Blk.new W4 61 _
               have HO5 := hid (HO4.out.since_ ((But.refl nil_ W4).alloc (.cells (thC (t0.slices o1 o2 o3 o4)) 61)))
               generalize W4.alloc (.cells (thC (t0.slices o1 o2 o3 o4)) 61) = W5 at *
               generalize W4.heap.size = g5 at *))
          have HT5 := hid (S5.out.blk HT0.out (fun h => h))
          have HG1 := hid (S5.out.blk HG0.out (fun h => h))
          have HN5 := hid (S5.out.blk HN0.out (fun h => h))
          have H05 := hid (H0.out.since_ S5.out)
          have H15 := hid (H1.out.since_ S5.out)
          have HTN5 := hid (HTN.out.since_ S5.out)
          have HUN5 := hid (HUN.out.since_ S5.out)
          have HOS : Hid (ThS (fun j => j < W5.heap.size) W5 (t0.slices o1 o2 o3 o4) p0) := HO5.out.s
          refine wp_region_toldz 10 mixed (by kernel_rfl) ?_
          simp only [List.take_succ_cons, List.take_zero, List.drop_succ_cons, List.drop_zero]
          refine z_val (v := .agg (thC (t0.slices o1 o2 o3 o4))) (fun _ => rfl) (fun vs W hW => loose_load61 rfl rfl (hW.blk HG5.out (fun h => h))) ?_
          simp only [Act.put, List.setIfInBounds_toArray, List.set_cons_zero, List.set_cons_succ, List.nil_append, List.cons_append, Nat.reduceAdd]
          refine z_val (v := .agg (thC t1)) (fun _ => rfl) (fun vs W hW => loose_load61 rfl rfl (hW.blk HG1.out (fun h => h))) ?_
          simp only [Act.put, List.setIfInBounds_toArray, List.set_cons_zero, List.set_cons_succ, List.nil_append, List.cons_append, Nat.reduceAdd]
          refine z_part (PartT W5.heap.size t1 p1) PartT.steady (fun _ => rfl) (fun vs W Good hW hd => ?_) ?_
          · clear hd
            go_simp
            exact z_callPT (RetTh.part (copy72 W t1 p1 (H15.out.since_ hW) (Nat.le_succ_of_le HZ1.out.z1) (Nat.le_succ_of_le HZ1.out.z2) (Nat.le_succ_of_le HZ1.out.z3) HZ1.out.z4))
          simp only [Act.put, List.setIfInBounds_toArray, List.set_cons_zero, List.set_cons_succ, List.nil_append, List.cons_append, Nat.reduceAdd]
          refine z_val (v := .agg #[.int .i64 d2, .slice A2 n2 c2, .int .i64 e2, .slice E2 m2 k2]) (fun _ => rfl) (fun vs W hW => loose_load (cur := [.int .i64 d2, .slice A2 n2 c2, .int .i64 e2, .slice E2 m2 k2]) (vs := [.int .i64 d2, .slice A2 n2 c2, .int .i64 e2, .slice E2 m2 k2]) rfl rfl (hW.blk HN5.out (fun h => h)) agg43 size43 rfl) ?_
          simp only [Act.put, List.setIfInBounds_toArray, List.set_cons_zero, List.set_cons_succ, List.nil_append, List.cons_append, Nat.reduceAdd]
          refine z_part (PartN W5.heap.size T P N) PartN.steady (fun _ => rfl) (fun vs W Good hW hd => ?_) ?_
          · obtain ⟨lo, hi, hgd, g1, g2, g3, g4, e2', hgS⟩ := hd ⟨2, .data⟩ (by simp) rfl _ rfl
            have HGS := hid hgS.at_
            clear hd hgS hgd
            rw [show vs 2 = .agg (thC (t1.slices g1 g2 g3 g4)) from e2']
            clear e2'
            go_simp
            exact z_callPN (RetS.part (S := fun j => j < W5.heap.size) (fun _ h => h) (HTH.out W _ o1 o2 o3 o4 g1 g2 g3 g4 (HOS.out.keep hW (fun _ _ h => h)) HGS.out (HTN5.out.since_ hW) (HUN5.out.since_ hW)))
          simp only [Act.put, List.setIfInBounds_toArray, List.set_cons_zero, List.set_cons_succ, List.nil_append, List.cons_append, Nat.reduceAdd]
          refine z_part (PartN W5.heap.size T P N) PartN.steady (fun _ => rfl) (fun vs W Good hW hd => z_movPN (hd ⟨4, .data⟩ (by simp) rfl _ rfl)) ?_
          simp only [Act.put, List.setIfInBounds_toArray, List.set_cons_zero, List.set_cons_succ, List.nil_append, List.cons_append, Nat.reduceAdd]
          refine z_part (PartT W5.heap.size T P) PartT.steady (fun _ => rfl) (fun vs W Good hW hd => z_thPN rfl rfl (hd ⟨5, .data⟩ (by simp) rfl _ rfl)) ?_
          simp only [Act.put, List.setIfInBounds_toArray, List.set_cons_zero, List.set_cons_succ, List.nil_append, List.cons_append, Nat.reduceAdd]
          refine z_val' (v := .int .i64 N) (fun _ => rfl) (fun vs W Good hW hd => z_numPN rfl rfl (hd ⟨5, .data⟩ (by simp) rfl _ rfl)) ?_
          simp only [Act.put, List.setIfInBounds_toArray, List.set_cons_zero, List.set_cons_succ, List.nil_append, List.cons_append, Nat.reduceAdd]
          refine z_box 61 (thC zeroTh) (fun _ => rfl) (fun vs W hW => alloc_run61 rfl) ?_
          simp only [Act.put, List.setIfInBounds_toArray, List.set_cons_zero, List.set_cons_succ, List.nil_append, List.cons_append, Nat.reduceAdd]
          refine z_fill 8 6 61 (thC zeroTh) PutA rfl PutA.steady (by kernel_rfl) (fun _ => rfl) (fun vs W Good hW hd g hg hk => by
            obtain ⟨u, hu⟩ := PartT.th (lo := 0) (hi := 0) (hd ⟨6, .data⟩ (by simp) rfl _ rfl)
            exact z_putA rfl rfl hg rfl hu hk) ?_
          simp only [Act.put, List.setIfInBounds_toArray, List.set_cons_zero, List.set_cons_succ, List.nil_append, List.cons_append, Nat.reduceAdd]
          refine z_nil ?_
          intro vs W6 hW hv hp hb hf
          obtain ⟨lo, hi, q1, q2, q3, q4, e6, hS⟩ := hp 6 _ rfl
          obtain ⟨u', g6, e8, e6', hk⟩ := hf 9 8 6 _ rfl
          have eu : thC (T.slices q1 q2 q3 q4) = thC u' := Value.agg.inj (e6.symm.trans e6')
          rw [← eu] at hk
          dsimp only
          rw [e8, e6]
          have S6 := hid hW
          have HA6 := hid hS.at_
          have HG6 := hid hk
          have HB6 := hid (HB5.out.trans (since_below hW HB5.out.size))
          clear hv hp hb hf e8 e6 e6' eu hk hS hW
          generalize vs 2 = v2
          generalize vs 4 = v4
          generalize vs 5 = v5
          unfold ptr
          have HT6 := hid (S6.out.blk HT5.out (fun h => h))
          have HGG6 := hid (S6.out.blk HG1.out (fun h => h))
          have HK5 := hid (S6.out.blk HG5.out (fun h => h))
          obtain ⟨b1, b2, b3, b4⟩ := (S6.out.blk HN5.out (fun h => h)).cells4
          go_wp2_with (first
            | ((with_reducible refine wpList_load61 t0 w.heap.size ?_ HT6.out ?_); exact rfl)
            | ((with_reducible refine wpList_load61 t1 (w.heap.size + 1) ?_ HGG6.out ?_); exact rfl)
            | (go_at_call 79
               with_reducible refine (HTH'.out W6 (H05.out.since_ S6.out) (H15.out.since_ S6.out) (HTN5.out.since_ S6.out) (HUN5.out.since_ S6.out)).mono ?_
               rintro e W7 ⟨j1, j2, j3, j4, rfl, ha, hb7⟩
               have S7 := hid ((But.refl nil_ W6).below hb7)
               have HB7 := hid (HB6.out.trans (hb7.mono HB6.out.size))
               have HJ7 := hid ha
               clear ha hb7 b1 b2 b3 b4)
            | ((with_reducible refine wpList_new61 (T.slices j1 j2 j3 j4) ?_ ?_ ?_)
               exact rfl
               exact rfl
               have S8 := hid (S7.out.alloc (.cells (thC (T.slices j1 j2 j3 j4)) 61))
               have HB8 := hid (HB7.out.alloc HB7.out.size (.cells (thC (T.slices j1 j2 j3 j4)) 61))
               have HG8 : Hid (Blk (W7.alloc (.cells (thC (T.slices j1 j2 j3 j4)) 61)) W7.heap.size 61 (thC (T.slices j1 j2 j3 j4))) := Blk.new W7 61 _
               have HJ8 := hid (HJ7.out.since_ ((But.refl nil_ W7).alloc (.cells (thC (T.slices j1 j2 j3 j4)) 61)))
               generalize W7.alloc (.cells (thC (T.slices j1 j2 j3 j4)) 61) = W8 at *
               generalize W7.heap.size = g8 at *
               have HA8 := hid (HA6.out.since_ S8.out)
               have HK6 := hid (S8.out.blk HG6.out (fun h => h))
               have HK8 := hid ((S6.out.trans S8.out).blk HG5.out (fun h => h))
               have HK0' := hid (S8.out.blk HT6.out (fun h => h))
               have HO8 := hid (HO5.out.since_ (S6.out.trans S8.out))
               have H08 := hid (H05.out.since_ (S6.out.trans S8.out)))
            | ((with_reducible refine wpList_load61 (T.slices q1 q2 q3 q4) g6 ?_ HK6.out ?_); exact rfl)
            | ((with_reducible refine wpList_load61 (T.slices j1 j2 j3 j4) g8 ?_ HG8.out ?_); exact rfl)
            | (go_at_call 75
               with_reducible refine (same75 W8 (T.slices q1 q2 q3 q4) (T.slices j1 j2 j3 j4) P P HA8.out HJ8.out).mono ?_
               rw [show sameT (T.slices q1 q2 q3 q4) P (T.slices j1 j2 j3 j4) P = true from sameT_refl T P]
               rintro e W9 ⟨rfl, hb9⟩
               have S9 := hid ((But.refl nil_ W8).below hb9)
               have HB9 := hid (HB8.out.trans (hb9.mono HB8.out.size))
               clear hb9)
            | ((with_reducible refine wpList_load61g (t0.slices o1 o2 o3 o4) g5 ?_ ?_ (S9.out.blk HK8.out (fun h => h)) ?_); exact rfl; exact rfl)
            | ((with_reducible refine wpList_load61g t0 w.heap.size ?_ ?_ (S9.out.blk HK0'.out (fun h => h)) ?_); exact rfl; exact rfl)
            | (go_at_call 75
               with_reducible refine (same75 W9 (t0.slices o1 o2 o3 o4) t0 p0 p0 (HO8.out.since_ S9.out) (H08.out.since_ S9.out)).mono ?_
               rw [show sameT (t0.slices o1 o2 o3 o4) p0 t0 p0 = true from sameT_refl t0 p0]
               rintro e W10 ⟨rfl, hb10⟩
               have S10 := hid (S9.out.below hb10)
               have HB10 := hid (HB9.out.trans (hb10.mono HB9.out.size))
               clear hb10)
            | ((with_reducible refine wpList_load61g (T.slices q1 q2 q3 q4) g6 ?_ ?_ (S10.out.blk HK6.out (fun h => h)) ?_); exact rfl; exact rfl)
            | (go_at_call 71
               with_reducible refine (HREF2.out W10 q1 q2 q3 q4 (HA8.out.since_ S10.out)).mono ?_
               rintro e W11 ⟨rfl, hb11⟩
               have HB11 := hid (HB10.out.trans (hb11.mono HB10.out.size))
               clear hb11))
          go_ret
          exact ⟨rfl, HB11.out⟩
    · have hkb : (t1.kind == 3) = false := by simpa using hk1
      have hkn : (t1.kind != 3) = true := by simpa using hk1
      go_enter Try.func22, Try.ntmps22
      go_wp2_with (first
        | (go_at_call 77
           with_reducible refine (alive77 _).mono ?_
           rintro e W1 ⟨rfl, hb1⟩
           have S1 := hid ((But.refl nil_ _).below hb1)
           have HB1 := hid (HB0.out.trans (hb1.mono HB0.out.size))
           have f1 := (HK0.out _ (S1.out.blk HT0.out (fun h => h)))
           have f2 := ((Blk.front (S1.out.blk HG0.out (fun h => h))).2.1)
           clear hb1)
        | fail)
      go_ret
      exact ⟨rfl, HB1.out⟩
  · have hkb : (t0.kind == 2) = false := by simpa using hk
    have hkn : (t0.kind != 2) = true := by simpa using hk
    go_enter Try.func22, Try.ntmps22
    go_wp2_with (first
      | (go_at_call 77
         with_reducible refine (alive77 _).mono ?_
         rintro e W1 ⟨rfl, hb1⟩
         have S1 := hid ((But.refl nil_ _).below hb1)
         have HB1 := hid (HB0.out.trans (hb1.mono HB0.out.size))
         have f1 := ((Blk.front (S1.out.blk HT0.out (fun h => h))).2.1)
         have f2 := trivial
         clear hb1)
      | fail)
    go_ret
    exact ⟨rfl, HB1.out⟩

theorem fits {H : Type} : ∀ ds : List (DataW H), ds.length = Try.f22.params.toList.length → Rows.gatePassesSpec.fn H ds = { results := [.lit (.bool true)], args := ds } := by
  intro ds h
  rw [Try.params22] at h
  match ds, h with
  | [e0, e1, e2], _ => rfl

set_option maxRecDepth 100000 in
theorem lifted (os : Os) (started : os.Started) (H : Type) (enc : TypeId × Value → H) :
    ReturnsInHanded {} Try.checked os 22 .any (Rows.gatePassesSpec.pre6 enc Try.prog Try.f22 Rows.gatePassesRow.domain false) (Rows.gatePassesSpec.post enc Try.prog Try.f22 false true false false) := by
  refine returnsInHanded_of_change_sized (C := Try.checked) own started (by kernel_rfl) Try.func22
    (ChangeSpec.witness6 (enc := enc) (C := Try.checked) false ⟨#[], #[.agg #[.int .u64 0, .int .i64 0, .int .i64 0, .slice none 0 0, .int .i64 0, .slice none 0 0, .int .i64 0, .int .i64 0, .slice none 0 0, .slice none 0 0, .int .u64 0, .int .u64 0, .int .u64 0, .int .u64 0, .int .i64 0, .int .i64 0, .bool false, .int .u64 0, .int .u64 0, .int .u64 0, .int .u64 0, .int .u64 0, .int .u64 0, .int .u64 0, .int .u64 0, .int .u64 0], .agg #[.int .u64 0, .int .i64 0, .int .i64 0, .slice none 0 0, .int .i64 0, .slice none 0 0, .int .i64 0, .int .i64 0, .slice none 0 0, .slice none 0 0, .int .u64 0, .int .u64 0, .int .u64 0, .int .u64 0, .int .i64 0, .int .i64 0, .bool false, .int .u64 0, .int .u64 0, .int .u64 0, .int .u64 0, .int .u64 0, .int .u64 0, .int .u64 0, .int .u64 0, .int .u64 0], .agg #[.int .i64 0, .slice none 0 0, .int .i64 0, .slice none 0 0]], []⟩ 8 (by kernel_rfl) (by kernel_rfl) (by kernel_rfl) (by kernel_rfl)) ?_
  intro W base args ds gs before hval0 hW hcnd hsz0 _
  have hval : ∀ (j : Nat) t v, Try.f22.params[j]? = some t → args[j]? = some v → Value.okWide Try.prog W .any base t v := hval0
  have hsz : (DataW.weightsEach Try.prog (Try.f22.params.toList ++ []) (ds ++ gs)).all (· ≤ reachBytes) = true := hsz0
  rw [Try.params22] at hsz
  have hpost : ∀ W', Below W.heap.size W W' → Rows.gatePassesSpec.post enc Try.prog Try.f22 false true false false W args (.bool true) W' := fun W' hb =>
    law_post rfl rfl Try.underlying4 laidOut (by kernel_rfl) fits hW hb
  obtain ⟨p, q, hA0, hV, rfl, hfz, hnd⟩ := hW
  have hA : DataW.TrodAll enc Try.prog W 0 (fun _ => true) true Try.f22.params.toList args.toList ds p := hA0
  rw [Try.params22] at hA hval
  obtain ⟨rfl, rfl⟩ := trodVars_none hV
  obtain ⟨v0, vs0, dd0, ds0, p0, q0, hargs, rfl, rfl, h0, hr0⟩ := trodAll_cons hA
  obtain ⟨v1, vs1, dd1, ds1, p1, q1, rfl, rfl, rfl, h1, hr1⟩ := trodAll_cons hr0
  obtain ⟨v2, vs2, dd2, ds2, p2, q2, rfl, rfl, rfl, h2, hr2⟩ := trodAll_cons hr1
  obtain ⟨rfl, rfl, rfl⟩ := trodAll_nil hr2
  obtain rfl : args = #[v0, v1, v2] := by cases args; simp_all
  have fit0 : Fits 61 dd0 := Fits.of_all hsz (j := 0) rfl rfl
  have fit1 : Fits 61 dd1 := Fits.of_all hsz (j := 1) rfl rfl
  have fit2 : Fits 43 dd2 := Fits.of_all hsz (j := 2) rfl rfl
  obtain ⟨t0, p0, rfl, X0, Y0, Z0⟩ := open_thing (hval 0 61 v0 rfl rfl) h0
  obtain ⟨t1, p1, rfl, X1, Y1, Z1⟩ := open_thing (hval 1 61 v1 rfl rfl) h1
  obtain ⟨d2, A2, n2, c2, l2, e2, E2, m2, k2, r2, rfl, T2, U2, F2, B2⟩ := open_who (hval 2 43 v2 rfl rfl) h2
  refine (walk t0 p0 t1 p1 d2 A2 n2 c2 l2 e2 E2 m2 k2 r2 W X0 Y0 X1 Y1 T2 U2 (Z0 fit0) (Z1 fit1) (F2 fit2).1 (F2 fit2).2).mono fun e W' ⟨he, hg⟩ => ?_
  subst he
  exact ⟨_, rfl, hpost W' hg⟩

theorem closed : joinedFacts Try.prog 22 Try.f22 Rows.gatePassesSpec Rows.gatePassesRow = true := by
  unfold joinedFacts
  rw [enters, finals, made]
  kernel_rfl

theorem over : Rows.gatePassesRow.holds Try.pinned (OpenSpec.ofChange Rows.gatePassesSpec) :=
  OpenClaim.holds_of_wide 22 Try.f22 rfl rfl rfl rfl rfl rfl rfl ⟨rfl, rfl, rfl, rfl, rfl⟩ rfl rfl rfl rfl rfl (by kernel_rfl) Try.func22 closed
    (of_decide_eq_true (by kernel_rfl)) (by unfold Func.isWrapper; rw [if_neg (by decide +kernel)]; exact ⟨rfl, rfl⟩)
    (fun os started H enc _ => lifted os started H enc)

theorem proved : Rows.GatePassesSaid := over
end Go.Proofs.Ytndohmimcbmhdaa.lawGatePasses
