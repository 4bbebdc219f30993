/-
  GateOwns: called with any values of its parameters, the law answers true, and of what lay in memory nothing has turned. No condition.
-/
import Derived.Test.YtndohmimcbmhdaaRows
import Derived.Test.YtndohmimcbmhdaaMz0
import Derived.Test.YtndohmimcbmhdaaMz2
import Derived.Test.YtndohmimcbmhdaaNa0
import Derived.Test.YtndohmimcbmhdaaNd0
set_option linter.unusedVariables false
set_option linter.unusedSimpArgs false
namespace Go.Proofs.Ytndohmimcbmhdaa.lawGateOwns
open Go.ChangeShapes Go.WideShapes Go.ChangeAt Go.RowKit Go.Sort

theorem own : ownKnob Try.prog.godebug = none := by kernel_rfl
theorem laidOut : laidOutB Try.prog = true := by kernel_rfl

theorem mint_cases (t : Th) (p : Tl) (boot : Int) : (∃ er, er ≠ 0 ∧ mintO t p boot = ⟨t, p, 0, er⟩) ∨ (rightB t.d1 (mintL t p boot) = true ∧ rightB t.d2 (mintC t p boot) = true ∧ mintO t p boot = ⟨{ t with boot := boot, minted := mintN t boot + 1 }, { p with l1 := mintL t p boot, l2 := mintC t p boot }, mintCat t boot, 0⟩) := by
  unfold mintO
  split
  · exact .inl ⟨182, by decide, rfl⟩
  · cases hq : (rightB t.d1 (mintL t p boot) && rightB t.d2 (mintC t p boot)) with
    | false => exact .inl ⟨91, by decide, rfl⟩
    | true =>
      rw [Bool.and_eq_true] at hq
      exact .inr ⟨hq.1, hq.2, rfl⟩

set_option maxHeartbeats 16000000 in
set_option maxRecDepth 100000 in
theorem walk (t0 : Th) (p0 : Tl) (a1 : Int) (a2 : Int) (w : World) (x0 : ThAt w t0 p0) (y0 : ThR t0) (b1 : -9223372036854775808 ≤ a1 ∧ a1 ≤ 9223372036854775807) (b2 : 0 ≤ a2 ∧ a2 ≤ 18446744073709551615) (z0 : ThZ t0) :
    Calls Try.prog 24 #[.agg (thC t0), .int .i64 a1, .int .u64 a2] w fun e w' => e = .returned (.bool true) ∧ Below w.heap.size w w' := by
  have mixed : Try.prog.follows .mixedOrders = true := by kernel_rfl
  have HB0 : Hid (Below w.heap.size w (w.alloc (.cells (thC t0) 61))) := (Below.refl _ w).alloc (Nat.le_refl _) _
  have HT0 : Hid (Blk (w.alloc (.cells (thC t0) 61)) w.heap.size 61 (thC t0)) := Blk.new w 61 _
  have H0 := hid (ThAt.below x0 HB0.out)
  have HR := hid y0
  have HZ := hid z0
  clear x0 y0 z0 b1 b2
  by_cases hk : t0.kind = 2
  · have HK := hid hk
    have HK0 : Hid (∀ W, Blk W w.heap.size 61 (thC t0) → W.cell? ⟨w.heap.size, 1, none⟩ = some (.int .i64 2)) := fun W h => by rw [← HK.out]; exact (Blk.front h).2.1
    clear hk
    obtain ⟨r, hr⟩ : ∃ r, r = rref_2 t0 p0 := ⟨_, rfl⟩
    have HRR := hid hr
    clear hr
    have HREF : Hid (∀ W, ThAt W t0 p0 → Calls Try.prog 71 #[.agg (thC t0)] W fun e w' => e = .returned (.bool r) ∧ Below W.heap.size W w') := fun W hW => by rw [HRR.out]; exact ref71_2 W t0 p0 hW HR.out HK.out
    cases r with
    | false =>
      go_enter Try.func24, Try.ntmps24
      go_wp2_with (first
        | (go_at_call 77
           with_reducible refine (alive77 _).mono ?_
           rintro e W1 ⟨rfl, hb1⟩
           have S1 := hid ((But.refl nil_ _).below hb1)
           have HB1 := hid (HB0.out.trans (hb1.mono HB0.out.size))
           have f1 := (HK0.out _ (S1.out.blk HT0.out (fun h => h)))
           clear hb1)
        | ((with_reducible refine wpList_load61g t0 w.heap.size ?_ ?_ (S1.out.blk HT0.out (fun h => h)) ?_); exact rfl; exact rfl)
        | (go_at_call 71
           with_reducible refine (HREF.out _ (H0.out.since_ S1.out)).mono ?_
           rintro e W2 ⟨rfl, hb2⟩
           have S2 := hid (S1.out.below hb2)
           have HB2 := hid (HB1.out.trans (hb2.mono HB1.out.size))
           clear hb2 f1)
        | fail)
      go_ret
      exact ⟨rfl, HB2.out⟩
    | true =>
      by_cases hb0 : a1 < 0
      · skip
        go_enter Try.func24, Try.ntmps24
        go_wp2_with (first
          | (go_at_call 77
             with_reducible refine (alive77 _).mono ?_
             rintro e W1 ⟨rfl, hb1⟩
             have S1 := hid ((But.refl nil_ _).below hb1)
             have HB1 := hid (HB0.out.trans (hb1.mono HB0.out.size))
             have f1 := (HK0.out _ (S1.out.blk HT0.out (fun h => h)))
             clear hb1)
          | ((with_reducible refine wpList_load61g t0 w.heap.size ?_ ?_ (S1.out.blk HT0.out (fun h => h)) ?_); exact rfl; exact rfl)
          | (go_at_call 71
             with_reducible refine (HREF.out _ (H0.out.since_ S1.out)).mono ?_
             rintro e W2 ⟨rfl, hb2⟩
             have S2 := hid (S1.out.below hb2)
             have HB2 := hid (HB1.out.trans (hb2.mono HB1.out.size))
             clear hb2 f1)
          | fail)
        go_ret
        exact ⟨rfl, HB2.out⟩
      · by_cases hb1 : 255 < a1
        · skip
          go_enter Try.func24, Try.ntmps24
          go_wp2_with (first
            | (go_at_call 77
               with_reducible refine (alive77 _).mono ?_
               rintro e W1 ⟨rfl, hb1⟩
               have S1 := hid ((But.refl nil_ _).below hb1)
               have HB1 := hid (HB0.out.trans (hb1.mono HB0.out.size))
               have f1 := (HK0.out _ (S1.out.blk HT0.out (fun h => h)))
               clear hb1)
            | ((with_reducible refine wpList_load61g t0 w.heap.size ?_ ?_ (S1.out.blk HT0.out (fun h => h)) ?_); exact rfl; exact rfl)
            | (go_at_call 71
               with_reducible refine (HREF.out _ (H0.out.since_ S1.out)).mono ?_
               rintro e W2 ⟨rfl, hb2⟩
               have S2 := hid (S1.out.below hb2)
               have HB2 := hid (HB1.out.trans (hb2.mono HB1.out.size))
               clear hb2 f1)
            | fail)
          go_ret
          exact ⟨rfl, HB2.out⟩
        · have H2 := hid (right2_of HRR.out.symm)
          have HM80 : Hid (∀ W, ThAt W t0 p0 → Calls Try.prog 80 #[.agg (thC t0), .int .i64 a1] W fun e w' => RetMint (mintO t0 p0 a1) W e w') := fun W h => mint80 W t0 p0 a1 h (right2_minty H2.out h (by omega) (by omega))
          rcases mint_cases t0 p0 a1 with ⟨er, her, hO⟩ | ⟨hr1, hr2, hO⟩
          · rw [hO] at HM80
            have hne : (er != 0) = true := by simpa using her
            have hne2 : (er == 0) = false := by simpa using her
            clear hO
            go_enter Try.func24, Try.ntmps24
            go_wp2_with (first
              | (go_at_call 77
                 with_reducible refine (alive77 _).mono ?_
                 rintro e W1 ⟨rfl, hb1⟩
                 have S1 := hid ((But.refl nil_ _).below hb1)
                 have HB1 := hid (HB0.out.trans (hb1.mono HB0.out.size))
                 have f1 := (HK0.out _ (S1.out.blk HT0.out (fun h => h)))
                 clear hb1)
              | ((with_reducible refine wpList_load61g t0 w.heap.size ?_ ?_ (S1.out.blk HT0.out (fun h => h)) ?_); exact rfl; exact rfl)
              | (go_at_call 71
                 with_reducible refine (HREF.out _ (H0.out.since_ S1.out)).mono ?_
                 rintro e W2 ⟨rfl, hb2⟩
                 have S2 := hid (S1.out.below hb2)
                 have HB2 := hid (HB1.out.trans (hb2.mono HB1.out.size))
                 clear hb2 f1)
              | ((with_reducible refine wpList_load61 t0 w.heap.size ?_ (S2.out.blk HT0.out (fun h => h)) ?_); exact rfl)
              | (go_at_call 80
                 with_reducible refine (HM80.out _ (H0.out.since_ S2.out)).mono ?_
                 rintro e W3 ⟨a, b, c, d, rfl, ha, hb3⟩
                 have S3 := hid (S2.out.below hb3)
                 have HB3 := hid (HB2.out.trans (hb3.mono HB2.out.size))
                 have HA3 : Hid (ThAt W3 (t0.slices a b c d) p0) := ha
                 clear ha hb3)
              | ((with_reducible refine wpList_new61 (t0.slices a b c d) ?_ ?_ ?_)
                 exact rfl
                 exact rfl
                 have S4 := hid (S3.out.alloc (.cells (thC (t0.slices a b c d)) 61))
                 have HB4 := hid (HB3.out.alloc HB3.out.size (.cells (thC (t0.slices a b c d)) 61))
                 have HG4 : Hid (Blk (W3.alloc (.cells (thC (t0.slices a b c d)) 61)) W3.heap.size 61 (thC (t0.slices a b c d))) := Blk.new W3 61 _
                 have HA4 := hid (HA3.out.since_ ((But.refl nil_ W3).alloc (.cells (thC (t0.slices a b c d)) 61)))
                 generalize W3.alloc (.cells (thC (t0.slices a b c d)) 61) = W4 at *
                 generalize W3.heap.size = g4 at *)
              | ((with_reducible refine wpList_load61g (t0.slices a b c d) g4 ?_ ?_ HG4.out ?_); exact rfl; exact rfl)
              | ((with_reducible refine wpList_load61g t0 w.heap.size ?_ ?_ (S4.out.blk HT0.out (fun h => h)) ?_); exact rfl; exact rfl)
              | (go_at_call 75
                 with_reducible refine (same75 W4 (t0.slices a b c d) t0 p0 p0 HA4.out (H0.out.since_ S4.out)).mono ?_
                 rw [show sameT (t0.slices a b c d) p0 t0 p0 = true from sameT_refl t0 p0]
                 rintro e W5 ⟨rfl, hb5⟩
                 have HB5 := hid (HB4.out.trans (hb5.mono HB4.out.size))
                 clear hb5))
            go_ret
            exact ⟨rfl, HB5.out⟩
          · obtain ⟨L, hL⟩ : ∃ L, L = mintL t0 p0 a1 := ⟨_, rfl⟩
            obtain ⟨C, hC⟩ : ∃ C, C = mintC t0 p0 a1 := ⟨_, rfl⟩
            obtain ⟨ct, hct⟩ : ∃ ct, ct = mintCat t0 a1 := ⟨_, rfl⟩
            have hLf : L = formL t0.d1 ((ct, 0) :: p0.l1) := by rw [hL, hct]; rfl
            have hCf : C = formL t0.d2 ((ct, 4) :: p0.l2) := by rw [hC, hct]; rfl
            rw [← hL] at hr1
            rw [← hC] at hr2
            rw [hO, ← hL, ← hC, ← hct] at HM80
            have HL6 := hid (right_len hr1)
            have HC6 := hid (right_len hr2)
            have HV1 : Hid (levelL t0.d1 L ct = 0) := by show _ = _; rw [hLf, level_form, level_head]
            have HV2 : Hid (levelL t0.d2 C ct = 4) := by show _ = _; rw [hCf, level_form, level_head]
            have HV3 : Hid (a2 ≠ ct → levelL t0.d1 L a2 = levelL t0.d1 p0.l1 a2) := fun h => by rw [hLf, level_form, level_tail 0 h]
            have HV4 : Hid (a2 ≠ ct → levelL t0.d2 C a2 = levelL t0.d2 p0.l2 a2) := fun h => by rw [hCf, level_form, level_tail 4 h]
            obtain ⟨F, hF⟩ : ∃ F, F = formL t0.d1 ((ct, 4) :: L) := ⟨_, rfl⟩
            obtain ⟨ta, hta⟩ : ∃ ta, ta = taintsB t0.d1 L t0.d2 C t0.d1 F := ⟨_, rfl⟩
            have HTA : Hid (ta = false → leqB t0.d1 L t0.d2 C = false) := fun h => by
              cases hq : leqB t0.d1 L t0.d2 C with
              | false => rfl
              | true =>
                rw [hLf, hCf] at hq
                have := taint_ok (by rw [← hLf]; exact hr1) hq
                rw [← hLf, ← hCf, ← hF, ← hta, h] at this
                cases this
            have HFL : Hid (F.length ≤ 7) := by show _ ≤ _; rw [hF]; have := formL_len t0.d1 ((ct, 4) :: L); have := HL6.out; simp only [List.length_cons] at *; omega
            have HSET : Hid (∀ W (A : Option Addr) (n c : Nat), CatsAt W W.heap.size A n c L → Calls Try.prog 49 #[.agg #[.int .i64 t0.d1, .slice A n c], .int .u64 ct, .int .i64 4] W fun e w' => RetLab t0.d1 F W e w') := fun W A n c h => by
              rw [hF]
              exact (set49 W t0.d1 ct 4 A n c L h (by have := h.len; have := HL6.out; omega)).mono fun _ _ h => made_lab h
            have HTN : Hid (∀ W (A : Option Addr) (n c : Nat) (E : Option Addr) (m k : Nat) (A' : Option Addr) (n' c' : Nat), CatsAt W W.heap.size A n c L → CatsAt W W.heap.size E m k C → CatsAt W W.heap.size A' n' c' F → Calls Try.prog 62 #[.agg #[.int .i64 t0.d1, .slice A n c, .int .i64 t0.d2, .slice E m k], .agg #[.int .i64 t0.d1, .slice A' n' c']] W fun e w' => e = .returned (.bool ta) ∧ Below W.heap.size W w') := fun W A n c E m k A' n' c' h1 h2 h3 => by
              rw [hta]
              have e1 := h1.len
              have e2 := h2.len
              have e3 := h3.len
              have := HL6.out
              have := HC6.out
              have := HFL.out
              exact f62 W t0.d1 A n c L t0.d2 E m k C t0.d1 A' n' c' F h1 (by omega) h2 (by omega) h3 (by omega)
            have HLQ : Hid (ta = false → ∀ W (A : Option Addr) (n c : Nat) (E : Option Addr) (m k : Nat), CatsAt W W.heap.size A n c L → CatsAt W W.heap.size E m k C → Calls Try.prog 40 #[.agg #[.int .i64 t0.d1, .slice A n c], .agg #[.int .i64 t0.d2, .slice E m k]] W fun e w' => e = .returned (.bool false) ∧ Below W.heap.size W w') := fun ht W A n c E m k h1 h2 => by
              rw [← HTA.out ht]
              exact leq40 W t0.d1 t0.d2 A E n c m k L C h1 h2
            clear hL hC hct hLf hCf hr1 hr2 hO hF hta HTA
            generalize mintN t0 a1 = N at *
            go_enter Try.func24, Try.ntmps24
            go_wp2_with (first
              | (go_at_call 77
                 with_reducible refine (alive77 _).mono ?_
                 rintro e W1 ⟨rfl, hb1⟩
                 have S1 := hid ((But.refl nil_ _).below hb1)
                 have HB1 := hid (HB0.out.trans (hb1.mono HB0.out.size))
                 have f1 := (HK0.out _ (S1.out.blk HT0.out (fun h => h)))
                 clear hb1)
              | ((with_reducible refine wpList_load61g t0 w.heap.size ?_ ?_ (S1.out.blk HT0.out (fun h => h)) ?_); exact rfl; exact rfl)
              | (go_at_call 71
                 with_reducible refine (HREF.out _ (H0.out.since_ S1.out)).mono ?_
                 rintro e W2 ⟨rfl, hb2⟩
                 have S2 := hid (S1.out.below hb2)
                 have HB2 := hid (HB1.out.trans (hb2.mono HB1.out.size))
                 clear hb2 f1)
              | ((with_reducible refine wpList_load61 t0 w.heap.size ?_ (S2.out.blk HT0.out (fun h => h)) ?_); exact rfl)
              | (go_at_call 80
                 with_reducible refine (HM80.out _ (H0.out.since_ S2.out)).mono ?_
                 rintro e W3 ⟨a, b, c, d, rfl, ha, hb3⟩
                 have S3 := hid (S2.out.below hb3)
                 have HB3 := hid (HB2.out.trans (hb3.mono HB2.out.size))
                 have HA3 := hid ha
                 clear ha hb3)
              | ((with_reducible refine wpList_new61 (({ t0 with boot := a1, minted := N + 1 } : Th).slices a b c d) ?_ ?_ ?_)
                 exact rfl
                 exact rfl
                 have S4 := hid (S3.out.alloc (.cells (thC (({ t0 with boot := a1, minted := N + 1 } : Th).slices a b c d)) 61))
                 have HB4 := hid (HB3.out.alloc HB3.out.size (.cells (thC (({ t0 with boot := a1, minted := N + 1 } : Th).slices a b c d)) 61))
                 have HG4 : Hid (Blk (W3.alloc (.cells (thC (({ t0 with boot := a1, minted := N + 1 } : Th).slices a b c d)) 61)) W3.heap.size 61 (thC (({ t0 with boot := a1, minted := N + 1 } : Th).slices a b c d))) := Blk.new W3 61 _
                 have HA4 := hid (HA3.out.since_ ((But.refl nil_ W3).alloc (.cells (thC (({ t0 with boot := a1, minted := N + 1 } : Th).slices a b c d)) 61)))
                 generalize W3.alloc (.cells (thC (({ t0 with boot := a1, minted := N + 1 } : Th).slices a b c d)) 61) = W4 at *
                 generalize W3.heap.size = g4 at *))
            have HLA : Hid (CatsAt W4 W4.heap.size a.a a.n a.c L) := HA4.out.c1
            have HLB : Hid (CatsAt W4 W4.heap.size b.a b.n b.c C) := HA4.out.c2
            have HFX : Hid (∀ W, But nil_ W4 W → ((W.cell? ⟨g4, 2, none⟩ = some (.int .i64 t0.d1) ∧ W.cell? ⟨g4, 3, none⟩ = some (.slice a.a a.n a.c)) ∧ (W.cell? ⟨g4, 4, none⟩ = some (.int .i64 t0.d2) ∧ W.cell? ⟨g4, 5, none⟩ = some (.slice b.a b.n b.c)))) := fun W hW => by
              have r := Blk.cells26 (hW.blk HG4.out (fun h => h))
              exact ⟨r.1, r.2.1⟩
            have HWHO := hid (fun W => who82 W (({ t0 with boot := a1, minted := N + 1 } : Th).slices a b c d))
            have HLV1 : Hid (∀ W, But nil_ W4 W → Calls Try.prog 37 #[.agg #[.int .i64 t0.d1, .slice a.a a.n a.c], .int .u64 ct] W fun e w' => e = .returned (.int .i64 0) ∧ Below W.heap.size W w') := fun W hW => by
              have := level_below W t0.d1 a.a a.n a.c L ct (HLA.out.since_ hW)
              rwa [HV1.out] at this
            have HLV2 : Hid (∀ W, But nil_ W4 W → Calls Try.prog 37 #[.agg #[.int .i64 t0.d2, .slice b.a b.n b.c], .int .u64 ct] W fun e w' => e = .returned (.int .i64 4) ∧ Below W.heap.size W w') := fun W hW => by
              have := level_below W t0.d2 b.a b.n b.c C ct (HLB.out.since_ hW)
              rwa [HV2.out] at this
            have HT4 := hid (S4.out.blk HT0.out (fun h => h))
            have H04 := hid (H0.out.since_ S4.out)
            clear HA4 HA3 HM80
            generalize hTT : (({ t0 with boot := a1, minted := N + 1 } : Th).slices a b c d) = T at *
            have HWHO2 : Hid (∀ W, Calls Try.prog 82 #[.agg (thC T)] W fun e w' => e = .returned (.agg #[.int .i64 t0.d1, .slice a.a a.n a.c, .int .i64 t0.d2, .slice b.a b.n b.c]) ∧ Below W.heap.size W w') := fun W => by
              have := HWHO.out W
              rw [← hTT] at this ⊢
              exact this
            clear HWHO hTT
            cases ta with
            | true =>
              refine wp_region_told 29 nil_ mixed (by kernel_rfl) ?_
              simp only [List.take_succ_cons, List.take_zero, List.drop_succ_cons, List.drop_zero]
              repeat (refine told_val (v := ?_) (fun _ => rfl) (fun vs W hW => ?_) ?_; rotate_left; (focus (have hf := HFX.out W hW; clear hW; go_simp; exact loose_val)); simp only [Act.put, List.setIfInBounds_toArray, List.set_cons_zero, List.set_cons_succ, List.nil_append, List.cons_append, Nat.reduceAdd, Leaves.at])
              refine told_val (v := .int .i64 0) (fun _ => rfl) (fun vs W hW => ?_) ?_
              · go_simp
                exact loose_call (HLV1.out W hW)
              simp only [Act.put, List.setIfInBounds_toArray, List.set_cons_zero, List.set_cons_succ, List.nil_append, List.cons_append, Nat.reduceAdd, Leaves.at]
              repeat (refine told_val (v := ?_) (fun _ => rfl) (fun vs W hW => ?_) ?_; rotate_left; (focus (have hf := HFX.out W hW; clear hW; go_simp; exact loose_val)); simp only [Act.put, List.setIfInBounds_toArray, List.set_cons_zero, List.set_cons_succ, List.nil_append, List.cons_append, Nat.reduceAdd, Leaves.at])
              refine told_val (v := .int .i64 4) (fun _ => rfl) (fun vs W hW => ?_) ?_
              · go_simp
                exact loose_call (HLV2.out W hW)
              simp only [Act.put, List.setIfInBounds_toArray, List.set_cons_zero, List.set_cons_succ, List.nil_append, List.cons_append, Nat.reduceAdd, Leaves.at]
              repeat (refine told_val (v := ?_) (fun _ => rfl) (fun vs W hW => ?_) ?_; rotate_left; (focus (have hf := HFX.out W hW; clear hW; go_simp; exact loose_val)); simp only [Act.put, List.setIfInBounds_toArray, List.set_cons_zero, List.set_cons_succ, List.nil_append, List.cons_append, Nat.reduceAdd, Leaves.at])
              refine told_val (v := .agg (thC T)) (hw := fun _ => rfl) (hr := fun vs W hW => loose_load61 rfl rfl (hW.blk HG4.out (fun h => h))) ?_
              simp only [Act.put, List.setIfInBounds_toArray, List.set_cons_zero, List.set_cons_succ, List.nil_append, List.cons_append, Nat.reduceAdd, Leaves.at]
              refine told_val (v := (.agg #[.int .i64 t0.d1, .slice a.a a.n a.c, .int .i64 t0.d2, .slice b.a b.n b.c])) (fun _ => rfl) (fun vs W hW => ?_) ?_
              · go_simp
                exact loose_call (HWHO2.out W)
              simp only [Act.put, List.setIfInBounds_toArray, List.set_cons_zero, List.set_cons_succ, List.nil_append, List.cons_append, Nat.reduceAdd, Leaves.at]
              repeat (refine told_val (v := ?_) (fun _ => rfl) (fun vs W hW => ?_) ?_; rotate_left; (focus (have hf := HFX.out W hW; clear hW; go_simp; exact loose_val)); simp only [Act.put, List.setIfInBounds_toArray, List.set_cons_zero, List.set_cons_succ, List.nil_append, List.cons_append, Nat.reduceAdd, Leaves.at])
              refine told_rel (LabR t0.d1 F) LabR.stable (fun _ => rfl) (fun vs W hW hd => ?_) ?_
              · clear hd
                go_simp
                exact loose_callR (HSET.out W a.a a.n a.c (HLA.out.since_ hW))
              simp only [Act.put, List.setIfInBounds_toArray, List.set_cons_zero, List.set_cons_succ, List.nil_append, List.cons_append, Nat.reduceAdd, Leaves.at]
              refine told_val' (v := .bool true) (fun _ => rfl) (fun vs W hW hd => ?_) ?_
              · obtain ⟨P18, m18, k18, e18, hT18⟩ := hd ⟨18, .data⟩ (by simp) rfl _ rfl (fun h => by cases h)
                clear hd
                go_simp
                exact loose_call (HTN.out W a.a a.n a.c b.a b.n b.c P18 m18 k18 (HLA.out.since_ hW) (HLB.out.since_ hW) hT18)
              simp only [Act.put, List.setIfInBounds_toArray, List.set_cons_zero, List.set_cons_succ, List.nil_append, List.cons_append, Nat.reduceAdd, Leaves.at]
              repeat (refine told_val (v := ?_) (fun _ => rfl) (fun vs W hW => ?_) ?_; rotate_left; (focus (have hf := HFX.out W hW; clear hW; go_simp; exact loose_val)); simp only [Act.put, List.setIfInBounds_toArray, List.set_cons_zero, List.set_cons_succ, List.nil_append, List.cons_append, Nat.reduceAdd, Leaves.at])
              repeat (first | (refine told_off (fun _ => rfl) ?_; simp only [Act.put, List.setIfInBounds_toArray, List.set_cons_zero, List.set_cons_succ, List.nil_append, List.cons_append, Nat.reduceAdd, Leaves.at]) | (refine told_val (v := ?_) (fun _ => rfl) (fun vs W hW => ?_) ?_; rotate_left; (focus (have hf := HFX.out W hW; clear hW; go_simp; exact loose_val)); simp only [Act.put, List.setIfInBounds_toArray, List.set_cons_zero, List.set_cons_succ, List.nil_append, List.cons_append, Nat.reduceAdd, Leaves.at]))
              refine told_nil ?_
              intro vs W5 hW5 hok hap
              clear hap
              dsimp only
              have HB5 := hid (HB4.out.trans (since_below hW5 HB4.out.size))
              have S5 := hid hW5
              have HFY : Hid (∀ W, But nil_ W5 W → ((W.cell? ⟨g4, 2, none⟩ = some (.int .i64 t0.d1) ∧ W.cell? ⟨g4, 3, none⟩ = some (.slice a.a a.n a.c)) ∧ (W.cell? ⟨g4, 4, none⟩ = some (.int .i64 t0.d2) ∧ W.cell? ⟨g4, 5, none⟩ = some (.slice b.a b.n b.c))) ∧ ((W.cell? ⟨w.heap.size, 2, none⟩ = some (.int .i64 t0.d1) ∧ W.cell? ⟨w.heap.size, 3, none⟩ = some (.slice t0.l1.a t0.l1.n t0.l1.c)) ∧ (W.cell? ⟨w.heap.size, 4, none⟩ = some (.int .i64 t0.d2) ∧ W.cell? ⟨w.heap.size, 5, none⟩ = some (.slice t0.l2.a t0.l2.n t0.l2.c)))) := fun W hW => by
                have r := Blk.cells26 ((S5.out.trans hW).blk HT4.out (fun h => h))
                exact ⟨HFX.out W (S5.out.trans hW), r.1, r.2.1⟩
              clear hok hW5
              by_cases he : a2 = ct
              · subst he
                go_wp2_with fail
                refine wp_region_told 26 nil_ mixed (by kernel_rfl) ?_
                simp only [List.take_succ_cons, List.take_zero, List.drop_succ_cons, List.drop_zero]
                repeat (first | (refine told_off (fun _ => rfl) ?_; simp only [Act.put, List.setIfInBounds_toArray, List.set_cons_zero, List.set_cons_succ, List.nil_append, List.cons_append, Nat.reduceAdd, Leaves.at]) | (refine told_val (v := ?_) (fun _ => rfl) (fun vs W hW => ?_) ?_; rotate_left; (focus (have hf := HFY.out W hW; clear hW; go_simp; exact loose_val)); simp only [Act.put, List.setIfInBounds_toArray, List.set_cons_zero, List.set_cons_succ, List.nil_append, List.cons_append, Nat.reduceAdd, Leaves.at]))
                refine told_nil ?_
                intro vs W6 hW6 hok hap
                clear hap
                dsimp only
                have HB6 := hid (HB5.out.trans (since_below hW6 HB5.out.size))
                clear hok hW6
                go_wp2_with fail
                go_ret
                exact ⟨rfl, HB6.out⟩
              · have hbe : (a2 == ct) = false := by simpa using he
                obtain ⟨v1, hv1⟩ : ∃ v, v = levelL t0.d1 p0.l1 a2 := ⟨_, rfl⟩
                obtain ⟨v2, hv2⟩ : ∃ v, v = levelL t0.d2 p0.l2 a2 := ⟨_, rfl⟩
                have HJ1 : Hid (∀ W, But nil_ W5 W → Calls Try.prog 37 #[.agg #[.int .i64 t0.d1, .slice a.a a.n a.c], .int .u64 a2] W fun e w' => e = .returned (.int .i64 v1) ∧ Below W.heap.size W w') := fun W hW => by
                  have := level_below W t0.d1 a.a a.n a.c L a2 (HLA.out.since_ (S5.out.trans hW))
                  rwa [HV3.out he, ← hv1] at this
                have HJ2 : Hid (∀ W, But nil_ W5 W → Calls Try.prog 37 #[.agg #[.int .i64 t0.d2, .slice b.a b.n b.c], .int .u64 a2] W fun e w' => e = .returned (.int .i64 v2) ∧ Below W.heap.size W w') := fun W hW => by
                  have := level_below W t0.d2 b.a b.n b.c C a2 (HLB.out.since_ (S5.out.trans hW))
                  rwa [HV4.out he, ← hv2] at this
                have HJ3 : Hid (∀ W, But nil_ W5 W → Calls Try.prog 37 #[.agg #[.int .i64 t0.d1, .slice t0.l1.a t0.l1.n t0.l1.c], .int .u64 a2] W fun e w' => e = .returned (.int .i64 v1) ∧ Below W.heap.size W w') := fun W hW => by rw [hv1]; exact level_below W _ _ _ _ _ a2 (H04.out.since_ (S5.out.trans hW)).c1
                have HJ4 : Hid (∀ W, But nil_ W5 W → Calls Try.prog 37 #[.agg #[.int .i64 t0.d2, .slice t0.l2.a t0.l2.n t0.l2.c], .int .u64 a2] W fun e w' => e = .returned (.int .i64 v2) ∧ Below W.heap.size W w') := fun W hW => by rw [hv2]; exact level_below W _ _ _ _ _ a2 (H04.out.since_ (S5.out.trans hW)).c2
                clear hv1 hv2 he
                go_wp2_with fail
                refine wp_region_told 26 nil_ mixed (by kernel_rfl) ?_
                simp only [List.take_succ_cons, List.take_zero, List.drop_succ_cons, List.drop_zero]
                repeat (refine told_val (v := ?_) (fun _ => rfl) (fun vs W hW => ?_) ?_; rotate_left; (focus (have hf := HFY.out W hW; clear hW; go_simp; exact loose_val)); simp only [Act.put, List.setIfInBounds_toArray, List.set_cons_zero, List.set_cons_succ, List.nil_append, List.cons_append, Nat.reduceAdd, Leaves.at])
                refine told_val (v := .int .i64 v1) (fun _ => rfl) (fun vs W hW => ?_) ?_
                · go_simp
                  exact loose_call (HJ1.out W hW)
                simp only [Act.put, List.setIfInBounds_toArray, List.set_cons_zero, List.set_cons_succ, List.nil_append, List.cons_append, Nat.reduceAdd, Leaves.at]
                repeat (refine told_val (v := ?_) (fun _ => rfl) (fun vs W hW => ?_) ?_; rotate_left; (focus (have hf := HFY.out W hW; clear hW; go_simp; exact loose_val)); simp only [Act.put, List.setIfInBounds_toArray, List.set_cons_zero, List.set_cons_succ, List.nil_append, List.cons_append, Nat.reduceAdd, Leaves.at])
                refine told_val (v := .int .i64 v1) (fun _ => rfl) (fun vs W hW => ?_) ?_
                · go_simp
                  exact loose_call (HJ3.out W hW)
                simp only [Act.put, List.setIfInBounds_toArray, List.set_cons_zero, List.set_cons_succ, List.nil_append, List.cons_append, Nat.reduceAdd, Leaves.at]
                repeat (refine told_val (v := ?_) (fun _ => rfl) (fun vs W hW => ?_) ?_; rotate_left; (focus (have hf := HFY.out W hW; clear hW; go_simp; exact loose_val)); simp only [Act.put, List.setIfInBounds_toArray, List.set_cons_zero, List.set_cons_succ, List.nil_append, List.cons_append, Nat.reduceAdd, Leaves.at])
                refine told_val (v := .int .i64 v2) (fun _ => rfl) (fun vs W hW => ?_) ?_
                · go_simp
                  exact loose_call (HJ2.out W hW)
                simp only [Act.put, List.setIfInBounds_toArray, List.set_cons_zero, List.set_cons_succ, List.nil_append, List.cons_append, Nat.reduceAdd, Leaves.at]
                repeat (refine told_val (v := ?_) (fun _ => rfl) (fun vs W hW => ?_) ?_; rotate_left; (focus (have hf := HFY.out W hW; clear hW; go_simp; exact loose_val)); simp only [Act.put, List.setIfInBounds_toArray, List.set_cons_zero, List.set_cons_succ, List.nil_append, List.cons_append, Nat.reduceAdd, Leaves.at])
                refine told_val (v := .int .i64 v2) (fun _ => rfl) (fun vs W hW => ?_) ?_
                · go_simp
                  exact loose_call (HJ4.out W hW)
                simp only [Act.put, List.setIfInBounds_toArray, List.set_cons_zero, List.set_cons_succ, List.nil_append, List.cons_append, Nat.reduceAdd, Leaves.at]
                repeat (refine told_val (v := ?_) (fun _ => rfl) (fun vs W hW => ?_) ?_; rotate_left; (focus (have hf := HFY.out W hW; clear hW; go_simp; exact loose_val)); simp only [Act.put, List.setIfInBounds_toArray, List.set_cons_zero, List.set_cons_succ, List.nil_append, List.cons_append, Nat.reduceAdd, Leaves.at])
                refine told_nil ?_
                intro vs W6 hW6 hok hap
                clear hap
                dsimp only
                have HB6 := hid (HB5.out.trans (since_below hW6 HB5.out.size))
                clear hok hW6
                go_wp2_with fail
                go_ret
                exact ⟨rfl, HB6.out⟩
            | false =>
              have HLQ2 := hid (HLQ.out rfl)
              refine wp_region_told 29 nil_ mixed (by kernel_rfl) ?_
              simp only [List.take_succ_cons, List.take_zero, List.drop_succ_cons, List.drop_zero]
              repeat (refine told_val (v := ?_) (fun _ => rfl) (fun vs W hW => ?_) ?_; rotate_left; (focus (have hf := HFX.out W hW; clear hW; go_simp; exact loose_val)); simp only [Act.put, List.setIfInBounds_toArray, List.set_cons_zero, List.set_cons_succ, List.nil_append, List.cons_append, Nat.reduceAdd, Leaves.at])
              refine told_val (v := .int .i64 0) (fun _ => rfl) (fun vs W hW => ?_) ?_
              · go_simp
                exact loose_call (HLV1.out W hW)
              simp only [Act.put, List.setIfInBounds_toArray, List.set_cons_zero, List.set_cons_succ, List.nil_append, List.cons_append, Nat.reduceAdd, Leaves.at]
              repeat (refine told_val (v := ?_) (fun _ => rfl) (fun vs W hW => ?_) ?_; rotate_left; (focus (have hf := HFX.out W hW; clear hW; go_simp; exact loose_val)); simp only [Act.put, List.setIfInBounds_toArray, List.set_cons_zero, List.set_cons_succ, List.nil_append, List.cons_append, Nat.reduceAdd, Leaves.at])
              refine told_val (v := .int .i64 4) (fun _ => rfl) (fun vs W hW => ?_) ?_
              · go_simp
                exact loose_call (HLV2.out W hW)
              simp only [Act.put, List.setIfInBounds_toArray, List.set_cons_zero, List.set_cons_succ, List.nil_append, List.cons_append, Nat.reduceAdd, Leaves.at]
              repeat (refine told_val (v := ?_) (fun _ => rfl) (fun vs W hW => ?_) ?_; rotate_left; (focus (have hf := HFX.out W hW; clear hW; go_simp; exact loose_val)); simp only [Act.put, List.setIfInBounds_toArray, List.set_cons_zero, List.set_cons_succ, List.nil_append, List.cons_append, Nat.reduceAdd, Leaves.at])
              refine told_val (v := .agg (thC T)) (hw := fun _ => rfl) (hr := fun vs W hW => loose_load61 rfl rfl (hW.blk HG4.out (fun h => h))) ?_
              simp only [Act.put, List.setIfInBounds_toArray, List.set_cons_zero, List.set_cons_succ, List.nil_append, List.cons_append, Nat.reduceAdd, Leaves.at]
              refine told_val (v := (.agg #[.int .i64 t0.d1, .slice a.a a.n a.c, .int .i64 t0.d2, .slice b.a b.n b.c])) (fun _ => rfl) (fun vs W hW => ?_) ?_
              · go_simp
                exact loose_call (HWHO2.out W)
              simp only [Act.put, List.setIfInBounds_toArray, List.set_cons_zero, List.set_cons_succ, List.nil_append, List.cons_append, Nat.reduceAdd, Leaves.at]
              repeat (refine told_val (v := ?_) (fun _ => rfl) (fun vs W hW => ?_) ?_; rotate_left; (focus (have hf := HFX.out W hW; clear hW; go_simp; exact loose_val)); simp only [Act.put, List.setIfInBounds_toArray, List.set_cons_zero, List.set_cons_succ, List.nil_append, List.cons_append, Nat.reduceAdd, Leaves.at])
              refine told_rel (LabR t0.d1 F) LabR.stable (fun _ => rfl) (fun vs W hW hd => ?_) ?_
              · clear hd
                go_simp
                exact loose_callR (HSET.out W a.a a.n a.c (HLA.out.since_ hW))
              simp only [Act.put, List.setIfInBounds_toArray, List.set_cons_zero, List.set_cons_succ, List.nil_append, List.cons_append, Nat.reduceAdd, Leaves.at]
              refine told_val' (v := .bool false) (fun _ => rfl) (fun vs W hW hd => ?_) ?_
              · obtain ⟨P18, m18, k18, e18, hT18⟩ := hd ⟨18, .data⟩ (by simp) rfl _ rfl (fun h => by cases h)
                clear hd
                go_simp
                exact loose_call (HTN.out W a.a a.n a.c b.a b.n b.c P18 m18 k18 (HLA.out.since_ hW) (HLB.out.since_ hW) hT18)
              simp only [Act.put, List.setIfInBounds_toArray, List.set_cons_zero, List.set_cons_succ, List.nil_append, List.cons_append, Nat.reduceAdd, Leaves.at]
              repeat (refine told_val (v := ?_) (fun _ => rfl) (fun vs W hW => ?_) ?_; rotate_left; (focus (have hf := HFX.out W hW; clear hW; go_simp; exact loose_val)); simp only [Act.put, List.setIfInBounds_toArray, List.set_cons_zero, List.set_cons_succ, List.nil_append, List.cons_append, Nat.reduceAdd, Leaves.at])
              refine told_val (v := .bool false) (fun _ => rfl) (fun vs W hW => ?_) ?_
              · go_simp
                exact loose_call (HLQ2.out W a.a a.n a.c b.a b.n b.c (HLA.out.since_ hW) (HLB.out.since_ hW))
              simp only [Act.put, List.setIfInBounds_toArray, List.set_cons_zero, List.set_cons_succ, List.nil_append, List.cons_append, Nat.reduceAdd, Leaves.at]
              repeat (refine told_val (v := ?_) (fun _ => rfl) (fun vs W hW => ?_) ?_; rotate_left; (focus (have hf := HFX.out W hW; clear hW; go_simp; exact loose_val)); simp only [Act.put, List.setIfInBounds_toArray, List.set_cons_zero, List.set_cons_succ, List.nil_append, List.cons_append, Nat.reduceAdd, Leaves.at])
              refine told_nil ?_
              intro vs W5 hW5 hok hap
              clear hap
              dsimp only
              have HB5 := hid (HB4.out.trans (since_below hW5 HB4.out.size))
              have S5 := hid hW5
              have HFY : Hid (∀ W, But nil_ W5 W → ((W.cell? ⟨g4, 2, none⟩ = some (.int .i64 t0.d1) ∧ W.cell? ⟨g4, 3, none⟩ = some (.slice a.a a.n a.c)) ∧ (W.cell? ⟨g4, 4, none⟩ = some (.int .i64 t0.d2) ∧ W.cell? ⟨g4, 5, none⟩ = some (.slice b.a b.n b.c))) ∧ ((W.cell? ⟨w.heap.size, 2, none⟩ = some (.int .i64 t0.d1) ∧ W.cell? ⟨w.heap.size, 3, none⟩ = some (.slice t0.l1.a t0.l1.n t0.l1.c)) ∧ (W.cell? ⟨w.heap.size, 4, none⟩ = some (.int .i64 t0.d2) ∧ W.cell? ⟨w.heap.size, 5, none⟩ = some (.slice t0.l2.a t0.l2.n t0.l2.c)))) := fun W hW => by
                have r := Blk.cells26 ((S5.out.trans hW).blk HT4.out (fun h => h))
                exact ⟨HFX.out W (S5.out.trans hW), r.1, r.2.1⟩
              clear hok hW5
              by_cases he : a2 = ct
              · subst he
                go_wp2_with fail
                refine wp_region_told 26 nil_ mixed (by kernel_rfl) ?_
                simp only [List.take_succ_cons, List.take_zero, List.drop_succ_cons, List.drop_zero]
                repeat (first | (refine told_off (fun _ => rfl) ?_; simp only [Act.put, List.setIfInBounds_toArray, List.set_cons_zero, List.set_cons_succ, List.nil_append, List.cons_append, Nat.reduceAdd, Leaves.at]) | (refine told_val (v := ?_) (fun _ => rfl) (fun vs W hW => ?_) ?_; rotate_left; (focus (have hf := HFY.out W hW; clear hW; go_simp; exact loose_val)); simp only [Act.put, List.setIfInBounds_toArray, List.set_cons_zero, List.set_cons_succ, List.nil_append, List.cons_append, Nat.reduceAdd, Leaves.at]))
                refine told_nil ?_
                intro vs W6 hW6 hok hap
                clear hap
                dsimp only
                have HB6 := hid (HB5.out.trans (since_below hW6 HB5.out.size))
                clear hok hW6
                go_wp2_with fail
                go_ret
                exact ⟨rfl, HB6.out⟩
              · have hbe : (a2 == ct) = false := by simpa using he
                obtain ⟨v1, hv1⟩ : ∃ v, v = levelL t0.d1 p0.l1 a2 := ⟨_, rfl⟩
                obtain ⟨v2, hv2⟩ : ∃ v, v = levelL t0.d2 p0.l2 a2 := ⟨_, rfl⟩
                have HJ1 : Hid (∀ W, But nil_ W5 W → Calls Try.prog 37 #[.agg #[.int .i64 t0.d1, .slice a.a a.n a.c], .int .u64 a2] W fun e w' => e = .returned (.int .i64 v1) ∧ Below W.heap.size W w') := fun W hW => by
                  have := level_below W t0.d1 a.a a.n a.c L a2 (HLA.out.since_ (S5.out.trans hW))
                  rwa [HV3.out he, ← hv1] at this
                have HJ2 : Hid (∀ W, But nil_ W5 W → Calls Try.prog 37 #[.agg #[.int .i64 t0.d2, .slice b.a b.n b.c], .int .u64 a2] W fun e w' => e = .returned (.int .i64 v2) ∧ Below W.heap.size W w') := fun W hW => by
                  have := level_below W t0.d2 b.a b.n b.c C a2 (HLB.out.since_ (S5.out.trans hW))
                  rwa [HV4.out he, ← hv2] at this
                have HJ3 : Hid (∀ W, But nil_ W5 W → Calls Try.prog 37 #[.agg #[.int .i64 t0.d1, .slice t0.l1.a t0.l1.n t0.l1.c], .int .u64 a2] W fun e w' => e = .returned (.int .i64 v1) ∧ Below W.heap.size W w') := fun W hW => by rw [hv1]; exact level_below W _ _ _ _ _ a2 (H04.out.since_ (S5.out.trans hW)).c1
                have HJ4 : Hid (∀ W, But nil_ W5 W → Calls Try.prog 37 #[.agg #[.int .i64 t0.d2, .slice t0.l2.a t0.l2.n t0.l2.c], .int .u64 a2] W fun e w' => e = .returned (.int .i64 v2) ∧ Below W.heap.size W w') := fun W hW => by rw [hv2]; exact level_below W _ _ _ _ _ a2 (H04.out.since_ (S5.out.trans hW)).c2
                clear hv1 hv2 he
                go_wp2_with fail
                refine wp_region_told 26 nil_ mixed (by kernel_rfl) ?_
                simp only [List.take_succ_cons, List.take_zero, List.drop_succ_cons, List.drop_zero]
                repeat (refine told_val (v := ?_) (fun _ => rfl) (fun vs W hW => ?_) ?_; rotate_left; (focus (have hf := HFY.out W hW; clear hW; go_simp; exact loose_val)); simp only [Act.put, List.setIfInBounds_toArray, List.set_cons_zero, List.set_cons_succ, List.nil_append, List.cons_append, Nat.reduceAdd, Leaves.at])
                refine told_val (v := .int .i64 v1) (fun _ => rfl) (fun vs W hW => ?_) ?_
                · go_simp
                  exact loose_call (HJ1.out W hW)
                simp only [Act.put, List.setIfInBounds_toArray, List.set_cons_zero, List.set_cons_succ, List.nil_append, List.cons_append, Nat.reduceAdd, Leaves.at]
                repeat (refine told_val (v := ?_) (fun _ => rfl) (fun vs W hW => ?_) ?_; rotate_left; (focus (have hf := HFY.out W hW; clear hW; go_simp; exact loose_val)); simp only [Act.put, List.setIfInBounds_toArray, List.set_cons_zero, List.set_cons_succ, List.nil_append, List.cons_append, Nat.reduceAdd, Leaves.at])
                refine told_val (v := .int .i64 v1) (fun _ => rfl) (fun vs W hW => ?_) ?_
                · go_simp
                  exact loose_call (HJ3.out W hW)
                simp only [Act.put, List.setIfInBounds_toArray, List.set_cons_zero, List.set_cons_succ, List.nil_append, List.cons_append, Nat.reduceAdd, Leaves.at]
                repeat (refine told_val (v := ?_) (fun _ => rfl) (fun vs W hW => ?_) ?_; rotate_left; (focus (have hf := HFY.out W hW; clear hW; go_simp; exact loose_val)); simp only [Act.put, List.setIfInBounds_toArray, List.set_cons_zero, List.set_cons_succ, List.nil_append, List.cons_append, Nat.reduceAdd, Leaves.at])
                refine told_val (v := .int .i64 v2) (fun _ => rfl) (fun vs W hW => ?_) ?_
                · go_simp
                  exact loose_call (HJ2.out W hW)
                simp only [Act.put, List.setIfInBounds_toArray, List.set_cons_zero, List.set_cons_succ, List.nil_append, List.cons_append, Nat.reduceAdd, Leaves.at]
                repeat (refine told_val (v := ?_) (fun _ => rfl) (fun vs W hW => ?_) ?_; rotate_left; (focus (have hf := HFY.out W hW; clear hW; go_simp; exact loose_val)); simp only [Act.put, List.setIfInBounds_toArray, List.set_cons_zero, List.set_cons_succ, List.nil_append, List.cons_append, Nat.reduceAdd, Leaves.at])
                refine told_val (v := .int .i64 v2) (fun _ => rfl) (fun vs W hW => ?_) ?_
                · go_simp
                  exact loose_call (HJ4.out W hW)
                simp only [Act.put, List.setIfInBounds_toArray, List.set_cons_zero, List.set_cons_succ, List.nil_append, List.cons_append, Nat.reduceAdd, Leaves.at]
                repeat (refine told_val (v := ?_) (fun _ => rfl) (fun vs W hW => ?_) ?_; rotate_left; (focus (have hf := HFY.out W hW; clear hW; go_simp; exact loose_val)); simp only [Act.put, List.setIfInBounds_toArray, List.set_cons_zero, List.set_cons_succ, List.nil_append, List.cons_append, Nat.reduceAdd, Leaves.at])
                refine told_nil ?_
                intro vs W6 hW6 hok hap
                clear hap
                dsimp only
                have HB6 := hid (HB5.out.trans (since_below hW6 HB5.out.size))
                clear hok hW6
                go_wp2_with fail
                go_ret
                exact ⟨rfl, HB6.out⟩
  · have hkb : (t0.kind == 2) = false := by simpa using hk
    have hkn : (t0.kind != 2) = true := by simpa using hk
    go_enter Try.func24, Try.ntmps24
    go_wp2_with (first
      | (go_at_call 77
         with_reducible refine (alive77 _).mono ?_
         rintro e W1 ⟨rfl, hb1⟩
         have S1 := hid ((But.refl nil_ _).below hb1)
         have HB1 := hid (HB0.out.trans (hb1.mono HB0.out.size))
         have f1 := ((Blk.front (S1.out.blk HT0.out (fun h => h))).2.1)
         clear hb1)
      | fail)
    go_ret
    exact ⟨rfl, HB1.out⟩

theorem fits {H : Type} : ∀ ds : List (DataW H), ds.length = Try.f24.params.toList.length → Rows.gateOwnsSpec.fn H ds = { results := [.lit (.bool true)], args := ds } := by
  intro ds h
  rw [Try.params24] at h
  match ds, h with
  | [e0, e1, e2], _ => rfl

set_option maxRecDepth 100000 in
theorem lifted (os : Os) (started : os.Started) (H : Type) (enc : TypeId × Value → H) :
    ReturnsInHanded {} Try.checked os 24 .any (Rows.gateOwnsSpec.pre6 enc Try.prog Try.f24 Rows.gateOwnsRow.domain false) (Rows.gateOwnsSpec.post enc Try.prog Try.f24 false true false false) := by
  refine returnsInHanded_of_change_sized (C := Try.checked) own started (by kernel_rfl) Try.func24
    (ChangeSpec.witness6 (enc := enc) (C := Try.checked) false ⟨#[], #[.agg #[.int .u64 0, .int .i64 0, .int .i64 0, .slice none 0 0, .int .i64 0, .slice none 0 0, .int .i64 0, .int .i64 0, .slice none 0 0, .slice none 0 0, .int .u64 0, .int .u64 0, .int .u64 0, .int .u64 0, .int .i64 0, .int .i64 0, .bool false, .int .u64 0, .int .u64 0, .int .u64 0, .int .u64 0, .int .u64 0, .int .u64 0, .int .u64 0, .int .u64 0, .int .u64 0], .int .i64 0, .int .u64 0], []⟩ 8 (by kernel_rfl) (by kernel_rfl) (by kernel_rfl) (by kernel_rfl)) ?_
  intro W base args ds gs before hval0 hW hcnd hsz0 _
  have hval : ∀ (j : Nat) t v, Try.f24.params[j]? = some t → args[j]? = some v → Value.okWide Try.prog W .any base t v := hval0
  have hsz : (DataW.weightsEach Try.prog (Try.f24.params.toList ++ []) (ds ++ gs)).all (· ≤ reachBytes) = true := hsz0
  rw [Try.params24] at hsz
  have hpost : ∀ W', Below W.heap.size W W' → Rows.gateOwnsSpec.post enc Try.prog Try.f24 false true false false W args (.bool true) W' := fun W' hb =>
    law_post rfl rfl Try.underlying4 laidOut (by kernel_rfl) fits hW hb
  obtain ⟨p, q, hA0, hV, rfl, hfz, hnd⟩ := hW
  have hA : DataW.TrodAll enc Try.prog W 0 (fun _ => true) true Try.f24.params.toList args.toList ds p := hA0
  rw [Try.params24] at hA hval
  obtain ⟨rfl, rfl⟩ := trodVars_none hV
  obtain ⟨v0, vs0, dd0, ds0, p0, q0, hargs, rfl, rfl, h0, hr0⟩ := trodAll_cons hA
  obtain ⟨v1, vs1, dd1, ds1, p1, q1, rfl, rfl, rfl, h1, hr1⟩ := trodAll_cons hr0
  obtain ⟨v2, vs2, dd2, ds2, p2, q2, rfl, rfl, rfl, h2, hr2⟩ := trodAll_cons hr1
  obtain ⟨rfl, rfl, rfl⟩ := trodAll_nil hr2
  obtain rfl : args = #[v0, v1, v2] := by cases args; simp_all
  have fit0 : Fits 61 dd0 := Fits.of_all hsz (j := 0) rfl rfl
  obtain ⟨t0, p0, rfl, X0, Y0, Z0⟩ := open_thing (hval 0 61 v0 rfl rfl) h0
  obtain ⟨a1, rfl, rfl, rfl, w1⟩ := open_int Try.underlying3 (hval 1 3 v1 rfl rfl) h1
  obtain ⟨a2, rfl, rfl, rfl, w2⟩ := open_int Try.underlying24 (hval 2 24 v2 rfl rfl) h2
  refine (walk t0 p0 a1 a2 W X0 Y0 (by simpa [Lit.wf, IntKind.min, IntKind.max, IntKind.signed, IntKind.bits] using w1) (by simpa [Lit.wf, IntKind.min, IntKind.max, IntKind.signed, IntKind.bits] using w2) (Z0 fit0)).mono fun e W' ⟨he, hg⟩ => ?_
  subst he
  exact ⟨_, rfl, hpost W' hg⟩

theorem closed : joinedFacts Try.prog 24 Try.f24 Rows.gateOwnsSpec Rows.gateOwnsRow = true := by
  unfold joinedFacts
  rw [enters, finals, made]
  kernel_rfl

theorem over : Rows.gateOwnsRow.holds Try.pinned (OpenSpec.ofChange Rows.gateOwnsSpec) :=
  OpenClaim.holds_of_wide 24 Try.f24 rfl rfl rfl rfl rfl rfl rfl ⟨rfl, rfl, rfl, rfl, rfl⟩ rfl rfl rfl rfl rfl (by kernel_rfl) Try.func24 closed
    (of_decide_eq_true (by kernel_rfl)) (by unfold Func.isWrapper; rw [if_neg (by decide +kernel)]; exact ⟨rfl, rfl⟩)
    (fun os started H enc _ => lifted os started H enc)

theorem proved : Rows.GateOwnsSaid := over
end Go.Proofs.Ytndohmimcbmhdaa.lawGateOwns
