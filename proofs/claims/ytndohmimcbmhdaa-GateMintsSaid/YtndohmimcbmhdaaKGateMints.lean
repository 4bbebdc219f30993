/-
  GateMints: called with any values of its parameters, the law answers true, and of what lay in memory nothing has turned. No condition.
-/
import Derived.Test.YtndohmimcbmhdaaRows
import Derived.Test.YtndohmimcbmhdaaMz0
import Derived.Test.YtndohmimcbmhdaaMz2
import Derived.Test.YtndohmimcbmhdaaNc0
import Derived.Test.YtndohmimcbmhdaaNb3
set_option linter.unusedVariables false
set_option linter.unusedSimpArgs false
namespace Go.Proofs.Ytndohmimcbmhdaa.lawGateMints
open Go.ChangeShapes Go.WideShapes Go.ChangeAt Go.RowKit Go.Sort

theorem own : ownKnob Try.prog.godebug = none := by kernel_rfl
theorem laidOut : laidOutB Try.prog = true := by kernel_rfl

theorem mint_slices (T : Th) (P : Tl) (x : Int) (a b c d : Sl) : mintO (T.slices a b c d) P x = ⟨(mintO T P x).t.slices a b c d, (mintO T P x).p, (mintO T P x).cat, (mintO T P x).err⟩ := by
  have e1 : mintN (T.slices a b c d) x = mintN T x := rfl
  have e2 : mintL (T.slices a b c d) P x = mintL T P x := rfl
  have e3 : mintC (T.slices a b c d) P x = mintC T P x := rfl
  have e4 : mintCat (T.slices a b c d) x = mintCat T x := rfl
  unfold mintO
  rw [e1, e2, e3, e4]
  split
  · rfl
  · show (bif rightB T.d1 (mintL T P x) && rightB T.d2 (mintC T P x) then _ else _) = _
    cases (rightB T.d1 (mintL T P x) && rightB T.d2 (mintC T P x)) <;> rfl

set_option maxHeartbeats 16000000 in
set_option maxRecDepth 100000 in
theorem walk (t0 : Th) (p0 : Tl) (A1 : Option Addr) (n1 : Nat) (c1 : Nat) (l1 : List Int) (w : World) (x0 : ThAt w t0 p0) (y0 : ThR t0) (t1 : IntsAt w w.heap.size A1 n1 c1 l1) (z0 : ThZ t0) :
    Calls Try.prog 23 #[.agg (thC t0), .slice A1 n1 c1] w fun e w' => e = .returned (.bool true) ∧ Below w.heap.size w w' := by
  have mixed : Try.prog.follows .mixedOrders = true := by kernel_rfl
  have HB0 : Hid (Below w.heap.size w (w.alloc (.cells (thC t0) 61))) := (Below.refl _ w).alloc (Nat.le_refl _) _
  have HT0 : Hid (Blk (w.alloc (.cells (thC t0) 61)) w.heap.size 61 (thC t0)) := Blk.new w 61 _
  have H0 := hid (ThAt.below x0 HB0.out)
  have HIN := hid t1
  have HR := hid y0
  have HZ := hid z0
  clear x0 y0 z0 t1
  by_cases hk : t0.kind = 2
  · have HK := hid hk
    have HK0 : Hid (∀ W, Blk W w.heap.size 61 (thC t0) → W.cell? ⟨w.heap.size, 1, none⟩ = some (.int .i64 2)) := fun W h => by rw [← HK.out]; exact (Blk.front h).2.1
    clear hk
    obtain ⟨r, hr⟩ : ∃ r, r = rref_2 t0 p0 := ⟨_, rfl⟩
    have HRR := hid hr
    clear hr
    have HREF : Hid (∀ W, ThAt W t0 p0 → Calls Try.prog 71 #[.agg (thC t0)] W fun e w' => e = .returned (.bool r) ∧ Below W.heap.size W w') := fun W hW => by rw [HRR.out]; exact ref71_2 W t0 p0 hW HR.out HK.out
    cases r with
    | false =>
      go_enter Try.func23, Try.ntmps23
      go_wp2_with (first
        | (go_at_call 77
           with_reducible refine (alive77 _).mono ?_
           rintro e W1 ⟨rfl, hb1⟩
           have S1 := hid ((But.refl nil_ _).below hb1)
           have HB1 := hid (HB0.out.trans (hb1.mono HB0.out.size))
           have f1 := (HK0.out _ (S1.out.blk HT0.out (fun h => h)))
           clear hb1)
        | ((with_reducible refine wpList_load61g t0 w.heap.size ?_ ?_ (S1.out.blk HT0.out (fun h => h)) ?_); exact rfl; exact rfl)
        | (go_at_call 71
           with_reducible refine (HREF.out _ (H0.out.since_ S1.out)).mono ?_
           rintro e W2 ⟨rfl, hb2⟩
           have S2 := hid (S1.out.below hb2)
           have HB2 := hid (HB1.out.trans (hb2.mono HB1.out.size))
           clear hb2 f1)
        | fail)
      go_ret
      exact ⟨rfl, HB2.out⟩
    | true =>
      by_cases hn : 100 < n1
      · have hnz : (100 : Int) < (n1 : Int) := by omega
        go_enter Try.func23, Try.ntmps23
        go_wp2_with (first
          | (go_at_call 77
             with_reducible refine (alive77 _).mono ?_
             rintro e W1 ⟨rfl, hb1⟩
             have S1 := hid ((But.refl nil_ _).below hb1)
             have HB1 := hid (HB0.out.trans (hb1.mono HB0.out.size))
             have f1 := (HK0.out _ (S1.out.blk HT0.out (fun h => h)))
             clear hb1)
          | ((with_reducible refine wpList_load61g t0 w.heap.size ?_ ?_ (S1.out.blk HT0.out (fun h => h)) ?_); exact rfl; exact rfl)
          | (go_at_call 71
             with_reducible refine (HREF.out _ (H0.out.since_ S1.out)).mono ?_
             rintro e W2 ⟨rfl, hb2⟩
             have S2 := hid (S1.out.below hb2)
             have HB2 := hid (HB1.out.trans (hb2.mono HB1.out.size))
             clear hb2 f1)
          | fail)
        go_ret
        exact ⟨rfl, HB2.out⟩
      · have hnz : ¬ (100 : Int) < (n1 : Int) := by omega
        have H2 := hid (right2_of HRR.out.symm)
        go_enter Try.func23, Try.ntmps23
        go_wp2_with (first
          | (go_at_call 77
             with_reducible refine (alive77 _).mono ?_
             rintro e W1 ⟨rfl, hb1⟩
             have S1 := hid ((But.refl nil_ _).below hb1)
             have HB1 := hid (HB0.out.trans (hb1.mono HB0.out.size))
             have f1 := (HK0.out _ (S1.out.blk HT0.out (fun h => h)))
             clear hb1)
          | ((with_reducible refine wpList_load61g t0 w.heap.size ?_ ?_ (S1.out.blk HT0.out (fun h => h)) ?_); exact rfl; exact rfl)
          | (go_at_call 71
             with_reducible refine (HREF.out _ (H0.out.since_ S1.out)).mono ?_
             rintro e W2 ⟨rfl, hb2⟩
             have S2 := hid (S1.out.below hb2)
             have HB2 := hid (HB1.out.trans (hb2.mono HB1.out.size))
             clear hb2 f1)
          | fail)
        have HT2 := hid (S2.out.blk HT0.out (fun h => h))
        have H02 := hid (H0.out.since_ S2.out)
        refine wp_region_toldzA 7 mixed (by kernel_rfl) ?_
        simp only [List.take_succ_cons, List.take_zero, List.drop_succ_cons, List.drop_zero]
        refine z_val (v := .agg (thC t0)) (fun _ => rfl) (fun vs W hW => loose_load61 rfl rfl (hW.blk HT2.out (fun h => h))) ?_
        simp only [Act.put, List.setIfInBounds_toArray, List.set_cons_zero, List.set_cons_succ, List.nil_append, List.cons_append, Nat.reduceAdd]
        refine z_part (PartT W2.heap.size t0 p0) PartT.steady (fun _ => rfl) (fun vs W Good hW hd => ?_) ?_
        · clear hd
          go_simp
          exact z_callPT (RetTh.part (copy72 W t0 p0 (H02.out.since_ hW) (Nat.le_succ_of_le HZ.out.z1) (Nat.le_succ_of_le HZ.out.z2) (Nat.le_succ_of_le HZ.out.z3) HZ.out.z4))
        simp only [Act.put, List.setIfInBounds_toArray, List.set_cons_zero, List.set_cons_succ, List.nil_append, List.cons_append, Nat.reduceAdd]
        refine z_val (v := .agg (thC t0)) (fun _ => rfl) (fun vs W hW => loose_load61 rfl rfl (hW.blk HT2.out (fun h => h))) ?_
        simp only [Act.put, List.setIfInBounds_toArray, List.set_cons_zero, List.set_cons_succ, List.nil_append, List.cons_append, Nat.reduceAdd]
        refine z_box 61 (thC zeroTh) (fun _ => rfl) (fun vs W hW => alloc_run61 rfl) ?_
        simp only [Act.put, List.setIfInBounds_toArray, List.set_cons_zero, List.set_cons_succ, List.nil_append, List.cons_append, Nat.reduceAdd]
        refine z_box 61 (thC zeroTh) (fun _ => rfl) (fun vs W hW => alloc_run61 rfl) ?_
        simp only [Act.put, List.setIfInBounds_toArray, List.set_cons_zero, List.set_cons_succ, List.nil_append, List.cons_append, Nat.reduceAdd]
        refine z_fill 3 1 61 (thC zeroTh) PutA rfl PutA.steady (by kernel_rfl) (fun _ => rfl) (fun vs W Good hW hd g hg hk => by
          obtain ⟨u, hu⟩ := PartT.th (lo := 0) (hi := 0) (hd ⟨1, .data⟩ (by simp) rfl _ rfl)
          exact z_putA rfl rfl hg rfl hu hk) ?_
        simp only [Act.put, List.setIfInBounds_toArray, List.set_cons_zero, List.set_cons_succ, List.nil_append, List.cons_append, Nat.reduceAdd]
        refine z_fill 4 2 61 (thC zeroTh) PutA rfl PutA.steady (by kernel_rfl) (fun _ => rfl) (fun vs W Good hW hd g hg hk => by
          have hu : vs 2 = .agg (thC t0) := hd ⟨2, .data⟩ (by simp) rfl _ rfl
          exact z_putA (u := t0) (v := vs 2) rfl rfl hg (by rw [hu]; rfl) hu hk) ?_
        simp only [Act.put, List.setIfInBounds_toArray, List.set_cons_zero, List.set_cons_succ, List.nil_append, List.cons_append, Nat.reduceAdd]
        refine z_nil ?_
        intro vs W3 hW hv hp hb hf hap
        obtain ⟨lo, hi, hpa, hhi, q1, q2, q3, q4, e1, hS⟩ := hap.part 1 _ rfl
        obtain ⟨u5, g5, e3, e1', hk5⟩ := hf 5 3 1 _ rfl
        obtain ⟨u6, g6, e4, e2', hk6⟩ := hf 6 4 2 _ rfl
        have e2 := hv 2 _ rfl
        have hne : g5 ≠ g6 := fun h => hap.ne 3 4 _ _ _ _ rfl rfl (by decide) (by rw [e3, e4, h])
        have eu : thC (t0.slices q1 q2 q3 q4) = thC u5 := Value.agg.inj (e1.symm.trans e1')
        have ew : thC t0 = thC u6 := Value.agg.inj (e2.symm.trans e2')
        rw [← eu] at hk5
        rw [← ew] at hk6
        have hl5 : W2.heap.size ≤ g5 := by
          obtain ⟨g, e, h, _⟩ := hap.box 3 _ _ rfl
          have : ptr g5 = ptr g := e3.symm.trans e
          cases this; exact h
        have hl6 : W2.heap.size ≤ g6 := by
          obtain ⟨g, e, h, _⟩ := hap.box 4 _ _ rfl
          have : ptr g6 = ptr g := e4.symm.trans e
          cases this; exact h
        have ha5 := hpa 3 _ _ g5 rfl (by rw [e3]; rfl)
        have ha6 := hpa 4 _ _ g6 rfl (by rw [e4]; rfl)
        dsimp only
        rw [e3, e4]
        have S3 := hid (S2.out.trans hW)
        have hw2 : w.heap.size + 1 ≤ W2.heap.size := by have h1 := S2.out.size; have h2 : (w.alloc (.cells (thC t0) 61)).heap.size = w.heap.size + 1 := (by simp); omega
        have HX3 : Hid (ThS (fun k => k ≠ g5 ∧ k ≠ g6) W3 (t0.slices q1 q2 q3 q4) p0) := hS.mono fun k hk => by
          unfold parts at hk
          exact ⟨by omega, by omega⟩
        have HY3 : Hid (ThS (fun k => k ≠ g5 ∧ k ≠ g6) W3 t0 p0) := (H02.out.s.keep hW (fun _ _ h => h)).mono fun k hk => ⟨by omega, by omega⟩
        have HG5 := hid hk5
        have HG6 := hid hk6
        have HNE := hid hne
        have HB3 := hid (HB2.out.trans (since_below hW HB2.out.size))
        have HL5 : Hid (w.heap.size < g5 ∧ w.heap.size < g6) := ⟨by omega, by omega⟩
        clear hv hp hb hf hap e1 e3 e4 e1' e2' e2 eu ew hk5 hk6 hS hW hne hl5 hl6 ha5 ha6 hpa hhi hw2
        unfold ptr
        go_wp2_with fail
        go_loopw [36] (fun vi wr => ∃ (k : Nat) (T : Th) (P : Tl) (a b c d a' b' c' d' : Sl), k ≤ n1 ∧ vi = .int .i64 k ∧ Hid (Below w.heap.size w wr) ∧ Hid (Blk wr g5 61 (thC (T.slices a b c d))) ∧ Hid (Blk wr g6 61 (thC (T.slices a' b' c' d'))) ∧ Hid (ThS (fun k => k ≠ g5 ∧ k ≠ g6) wr (T.slices a b c d) P) ∧ Hid (ThS (fun k => k ≠ g5 ∧ k ≠ g6) wr (T.slices a' b' c' d') P) ∧ Hid (Right2 T P) ∧ Hid (ThR T) ∧ Hid (T.kind = 2)) (fun vi _ => n1 - (intOf vi).toNat)
        case atStart => exact ⟨0, t0, p0, q1, q2, q3, q4, t0.l1, t0.l2, t0.links, t0.data, Nat.zero_le _, rfl, HB3, HG5, HG6, HX3, HY3, H2, HR, HK⟩
        case round =>
          clear HX3 HY3 HG5 HG6
          obtain ⟨k, T, P, a, b, c, d, a', b', c', d', hk, rfl, BW, G5, G6, X5, X6, R2, RR, RK⟩ := hrel
          by_cases hlt : k < n1
          · have hltz : (k : Int) < (n1 : Int) := by omega
            obtain ⟨bb, off, x, hA, hbB, hx, hxr, c0⟩ := (HIN.out.below BW.out).one hlt
            subst hA
            clear hx
            by_cases hx0 : x < 0
            · go_wp2_with fail
              go_roundw
              case measure => simp [intOf] <;> omega
              case rel => exact ⟨k + 1, T, P, a, b, c, d, a', b', c', d', by omega, by go_num, BW, G5, G6, X5, X6, R2, RR, RK⟩
            · by_cases hx1 : 255 < x
              · go_wp2_with fail
                go_roundw
                case measure => simp [intOf] <;> omega
                case rel => exact ⟨k + 1, T, P, a, b, c, d, a', b', c', d', by omega, by go_num, BW, G5, G6, X5, X6, R2, RR, RK⟩
              · have b0 : 0 ≤ x := by omega
                have b1 : x ≤ 255 := by omega
                obtain ⟨O, hO⟩ : ∃ O, O = mintO T P x := ⟨_, rfl⟩
                have HSZ : Hid (∀ (W : World) (a b c d : Sl), ThAt W (T.slices a b c d) P → a.n ≤ 6 ∧ b.n ≤ 6 ∧ c.n = 0 ∧ d.n = 0) := fun W a b c d h => by
                  have q1 : P.l1.length = a.n := h.c1.len
                  have q2 : P.l2.length = b.n := h.c2.len
                  have q3 : P.links.length = c.n := h.lk.len
                  have q4 : P.data.length = d.n := h.dt.len
                  rw [R2.out.bare.links] at q3
                  rw [R2.out.bare.data] at q4
                  have := R2.out.len1
                  have := R2.out.len2
                  exact ⟨by omega, by omega, q3.symm, q4.symm⟩
                have HCP : Hid (∀ (W : World) (a b c d : Sl), ThAt W (T.slices a b c d) P → Calls Try.prog 72 #[.agg (thC (T.slices a b c d))] W fun e w' => ∃ o1 o2 o3 o4 : Sl, e = .returned (.agg (thC (T.slices o1 o2 o3 o4))) ∧ ThAt w' (T.slices o1 o2 o3 o4) P ∧ Below W.heap.size W w') := fun W a b c d h => by
                  obtain ⟨y1, y2, y3, y4⟩ := HSZ.out W a b c d h
                  exact (copy72 W (T.slices a b c d) P h (by show a.n ≤ _; omega) (by show b.n ≤ _; omega) (by show c.n ≤ _; omega) (by show d.n ≤ _; omega)).mono fun e w' ⟨o1, o2, o3, o4, he, ha, hb, hc, hd, hbl⟩ => ⟨o1, o2, o3, o4, he, ⟨ha.1, hb.1, hc.1, hd.1⟩, hbl⟩
                have HMY : Hid (∀ (W : World) (a b c d : Sl), ThAt W (T.slices a b c d) P → Minty (T.slices a b c d) x) := fun W a b c d h => right2_minty (w := W) (p := P) ⟨R2.out.named, R2.out.right, R2.out.regs, R2.out.clean, R2.out.age, R2.out.quota, ⟨R2.out.bare.next, R2.out.bare.value, R2.out.bare.s0, R2.out.bare.s1, R2.out.bare.s2, R2.out.bare.s3, R2.out.bare.s4, R2.out.bare.s5, R2.out.bare.s6, R2.out.bare.s7, R2.out.bare.links, R2.out.bare.data⟩⟩ h b0 b1
                have HMO : Hid (∀ (a b c d : Sl), mintO (T.slices a b c d) P x = ⟨O.t.slices a b c d, O.p, O.cat, O.err⟩) := fun a b c d => by rw [hO]; exact mint_slices T P x a b c d
                have HM80 : Hid (∀ (W : World) (a b c d : Sl), ThS (fun k => k ≠ g5 ∧ k ≠ g6) W (T.slices a b c d) P → Calls Try.prog 80 #[.agg (thC (T.slices a b c d)), .int .i64 x] W fun e w' => ∃ o1 o2 o3 o4 : Sl, e = .returned (.tuple #[.agg (thC (O.t.slices o1 o2 o3 o4)), .int .u64 O.cat, .int .i64 O.err]) ∧ ThS (fun k => (k ≠ g5 ∧ k ≠ g6) ∨ (W.heap.size ≤ k ∧ k < w'.heap.size)) w' (O.t.slices o1 o2 o3 o4) O.p ∧ Below W.heap.size W w') := fun W a b c d h => by
                  have := mint80s W (T.slices a b c d) P x _ h h.at_ (HMY.out W a b c d h.at_)
                  rw [HMO.out] at this
                  exact this
                have HM81 : Hid (∀ (W : World) (a b c d : Sl), ThS (fun k => k ≠ g5 ∧ k ≠ g6) W (T.slices a b c d) P → Calls Try.prog 81 #[.agg (thC (T.slices a b c d)), .int .i64 x] W fun e w' => ∃ o1 o2 o3 o4 : Sl, e = .returned (.tuple #[.agg (thC (O.t.slices o1 o2 o3 o4)), .int .u64 O.cat, .int .i64 O.err]) ∧ ThS (fun k => (k ≠ g5 ∧ k ≠ g6) ∨ (W.heap.size ≤ k ∧ k < w'.heap.size)) w' (O.t.slices o1 o2 o3 o4) O.p ∧ Below W.heap.size W w') := fun W a b c d h => by
                  have := mint81s W (T.slices a b c d) P x _ h h.at_ (HMY.out W a b c d h.at_)
                  rw [HMO.out] at this
                  exact this
                have RO : Hid (Right2 O.t O.p) := by show Right2 _ _; rw [hO]; exact mint_right R2.out b0 b1
                have ROR : Hid (ThR O.t) := by show ThR _; rw [hO]; exact mint_R R2.out RR.out b0 b1
                have ROK : Hid (O.t.kind = 2) := by show _ = _; rw [hO]; exact mint_kind RK.out
                clear hO HMO HMY
                obtain ⟨Ot, Op_, Oc, Oe⟩ := O
                dsimp only at HM80 HM81 RO ROR ROK
                have HREF2 : Hid (∀ W (a b c d : Sl), ThAt W (Ot.slices a b c d) Op_ → Calls Try.prog 71 #[.agg (thC (Ot.slices a b c d))] W fun e w' => e = .returned (.bool true) ∧ Below W.heap.size W w') := fun W a b c d hW => by
                  have := ref71_2 W (Ot.slices a b c d) Op_ hW (slices_R ROR.out _ _ _ _) ROK.out
                  rwa [show rref_2 (Ot.slices a b c d) Op_ = true from RO.out.to] at this
                have HSM : Hid (∀ W (T : Th) (P : Tl) (a b c d a' b' c' d' : Sl), ThAt W (T.slices a b c d) P → ThAt W (T.slices a' b' c' d') P → Calls Try.prog 75 #[.agg (thC (T.slices a b c d)), .agg (thC (T.slices a' b' c' d'))] W fun e w' => e = .returned (.bool true) ∧ Below W.heap.size W w') := fun W T P a b c d a' b' c' d' h h' => by
                  have := same75 W (T.slices a b c d) (T.slices a' b' c' d') P P h h'
                  rwa [show sameT (T.slices a b c d) P (T.slices a' b' c' d') P = true from sameT_refl T P] at this
                have hg5 : g5 < wr.heap.size := G5.out.lt
                have hg6 : g6 < wr.heap.size := G6.out.lt
                go_wp2_with (first
                  | ((with_reducible refine wpList_load61 (T.slices a b c d) g5 ?_ G5.out ?_); exact rfl)
                  | (go_at_call 72
                     with_reducible refine (HCP.out wr a b c d X5.out.at_).mono ?_
                     rintro e W5 ⟨o1, o2, o3, o4, rfl, ha, hb5⟩
                     have U5 := hid ((But.refl nil_ wr).below hb5)
                     have BW5 := hid (BW.out.trans (hb5.mono BW.out.size))
                     have HO5 := hid ha
                     clear ha hb5 c0)
                  | ((with_reducible refine wpList_new61 (T.slices o1 o2 o3 o4) ?_ ?_ ?_)
                     exact rfl
                     exact rfl
                     have U6 := hid (U5.out.alloc (.cells (thC (T.slices o1 o2 o3 o4)) 61))
                     have BW6 := hid (BW5.out.alloc BW5.out.size (.cells (thC (T.slices o1 o2 o3 o4)) 61))
                     have G9 : Hid (Blk (W5.alloc (.cells (thC (T.slices o1 o2 o3 o4)) 61)) W5.heap.size 61 (thC (T.slices o1 o2 o3 o4))) := Blk.new W5 61 _
                     have HO6 := hid (HO5.out.since_ ((But.refl nil_ W5).alloc (.cells (thC (T.slices o1 o2 o3 o4)) 61)))
                     generalize W5.alloc (.cells (thC (T.slices o1 o2 o3 o4)) 61) = W6 at *
                     generalize W5.heap.size = g9 at *
                     have X56 := hid (X5.out.keep U6.out (fun _ _ h => h))
                     have X66 := hid (X6.out.keep U6.out (fun _ _ h => h)))
                  | ((with_reducible refine wpList_load61 (T.slices a b c d) g5 ?_ (U6.out.blk G5.out (fun h => h)) ?_); exact rfl)
                  | (go_at_call 80
                     with_reducible refine (HM80.out W6 a b c d X56.out).mono ?_
                     rintro e W7 ⟨s1, s2, s3, s4, rfl, ha, hb7⟩
                     have U7 := hid (U6.out.below hb7)
                     have U67 := hid ((But.refl nil_ W6).below hb7)
                     have BW7 := hid (BW6.out.trans (hb7.mono BW6.out.size))
                     have Z7 : Hid (ThS (fun k => k ≠ g5 ∧ k ≠ g6) W7 (Ot.slices s1 s2 s3 s4) Op_) := ha.mono fun k hk => by have := U6.out.size; rcases hk with hk | hk <;> omega
                     clear ha hb7)
                  | ((with_reducible refine wpList_new61 (Ot.slices j1 j2 j3 j4) ?_ ?_ ?_)
                     exact rfl
                     exact rfl
                     have U10 := hid (U9.out.alloc (.cells (thC (Ot.slices j1 j2 j3 j4)) 61))
                     have BW10 := hid (BW9.out.alloc BW9.out.size (.cells (thC (Ot.slices j1 j2 j3 j4)) 61))
                     have G13 : Hid (Blk (W9.alloc (.cells (thC (Ot.slices j1 j2 j3 j4)) 61)) W9.heap.size 61 (thC (Ot.slices j1 j2 j3 j4))) := Blk.new W9 61 _
                     have V10 := hid ((U89.out.alloc (.cells (thC (Ot.slices j1 j2 j3 j4)) 61)))
                     have Y10 := hid (Y9.out.keep ((But.refl nil_ W9).alloc (.cells (thC (Ot.slices j1 j2 j3 j4)) 61)) (fun _ _ h => h))
                     have hq13 : wr.heap.size ≤ W9.heap.size := U9.out.size
                     have hl13 : W9.heap.size < (W9.alloc (.cells (thC (Ot.slices j1 j2 j3 j4)) 61)).heap.size := by simp
                     generalize W9.alloc (.cells (thC (Ot.slices j1 j2 j3 j4)) 61) = W10 at *
                     generalize W9.heap.size = g13 at *
                     have Z10 := hid (Z8.out.keep V10.out (fun _ _ h => h))
                     have K10 := hid (V10.out.blk G10.out (fun h => h))
                     have K9 := hid ((U8b.out.trans V10.out).blk G9.out (fun h => h))
                     have K5 := hid (U10.out.blk G5.out (fun h => h))
                     have K6 := hid (U10.out.blk G6.out (fun h => h))
                     have HO10 := hid (HO6.out.since_ (U8b.out.trans V10.out))
                     have X510 := hid (X5.out.keep U10.out (fun _ _ h => h)))
                  | ((with_reducible refine wpList_new61 (Ot.slices s1 s2 s3 s4) ?_ ?_ ?_)
                     exact rfl
                     exact rfl
                     have U8 := hid (U7.out.alloc (.cells (thC (Ot.slices s1 s2 s3 s4)) 61))
                     have BW8 := hid (BW7.out.alloc BW7.out.size (.cells (thC (Ot.slices s1 s2 s3 s4)) 61))
                     have G10 : Hid (Blk (W7.alloc (.cells (thC (Ot.slices s1 s2 s3 s4)) 61)) W7.heap.size 61 (thC (Ot.slices s1 s2 s3 s4))) := Blk.new W7 61 _
                     have Z8 := hid (Z7.out.keep ((But.refl nil_ W7).alloc (.cells (thC (Ot.slices s1 s2 s3 s4)) 61)) (fun _ _ h => h))
                     have U8b := hid (U67.out.alloc (.cells (thC (Ot.slices s1 s2 s3 s4)) 61))
                     have hl10 : W7.heap.size < (W7.alloc (.cells (thC (Ot.slices s1 s2 s3 s4)) 61)).heap.size := by simp
                     generalize W7.alloc (.cells (thC (Ot.slices s1 s2 s3 s4)) 61) = W8 at *
                     generalize W7.heap.size = g10 at *
                     have X68 := hid (X6.out.keep U8.out (fun _ _ h => h)))
                  | ((with_reducible refine wpList_load61 (T.slices a' b' c' d') g6 ?_ (U8.out.blk G6.out (fun h => h)) ?_); exact rfl)
                  | (go_at_call 81
                     with_reducible refine (HM81.out W8 a' b' c' d' X68.out).mono ?_
                     rintro e W9 ⟨j1, j2, j3, j4, rfl, ha, hb9⟩
                     have U9 := hid (U8.out.below hb9)
                     have U89 := hid ((But.refl nil_ W8).below hb9)
                     have BW9 := hid (BW8.out.trans (hb9.mono BW8.out.size))
                     have Y9 : Hid (ThS (fun k => k ≠ g5 ∧ k ≠ g6) W9 (Ot.slices j1 j2 j3 j4) Op_) := ha.mono fun k hk => by have := U8.out.size; rcases hk with hk | hk <;> omega
                     clear ha hb9)
                  | ((with_reducible refine wpList_load61 (Ot.slices s1 s2 s3 s4) g10 ?_ K10.out ?_); exact rfl)
                  | ((with_reducible refine wpList_load61 (Ot.slices j1 j2 j3 j4) g13 ?_ G13.out ?_); exact rfl)
                  | (go_at_call 75
                     with_reducible refine (HSM.out W10 Ot Op_ s1 s2 s3 s4 j1 j2 j3 j4 Z10.out.at_ Y10.out.at_).mono ?_
                     rintro e W11 ⟨rfl, hb11⟩
                     have U11 := hid ((But.refl nil_ W10).below hb11)
                     have BW11 := hid (BW10.out.trans (hb11.mono BW10.out.size))
                     clear hb11)
                  | ((with_reducible refine wpList_load61g (T.slices a b c d) g5 ?_ ?_ (U11.out.blk K5.out (fun h => h)) ?_); exact rfl; exact rfl)
                  | ((with_reducible refine wpList_load61g (T.slices o1 o2 o3 o4) g9 ?_ ?_ (U11.out.blk K9.out (fun h => h)) ?_); exact rfl; exact rfl)
                  | (go_at_call 75
                     with_reducible refine (HSM.out W11 T P a b c d o1 o2 o3 o4 (X510.out.at_.since_ U11.out) (HO10.out.since_ U11.out)).mono ?_
                     rintro e W12 ⟨rfl, hb12⟩
                     have U12 := hid (U11.out.below hb12)
                     have BW12 := hid (BW11.out.trans (hb12.mono BW11.out.size))
                     clear hb12)
                  | ((with_reducible refine wpList_load61g (Ot.slices s1 s2 s3 s4) g10 ?_ ?_ (U12.out.blk K10.out (fun h => h)) ?_); exact rfl; exact rfl)
                  | (go_at_call 71
                     with_reducible refine (HREF2.out W12 s1 s2 s3 s4 (Z10.out.at_.since_ U12.out)).mono ?_
                     rintro e W13 ⟨rfl, hb13⟩
                     have U13 := hid (U12.out.below hb13)
                     have BW13 := hid (BW12.out.trans (hb13.mono BW12.out.size))
                     have J5 := hid (U13.out.blk K5.out (fun h => h))
                     have J6 := hid (U13.out.blk K6.out (fun h => h))
                     have J10 := hid (U13.out.blk K10.out (fun h => h))
                     have J13 := hid (U13.out.blk G13.out (fun h => h))
                     clear hb13)
                  | ((with_reducible refine wpList_load61 (Ot.slices s1 s2 s3 s4) g10 ?_ J10.out ?_); exact rfl)
                  | ((with_reducible refine wpList_store61 (Ot.slices s1 s2 s3 s4) (T.slices a b c d) g5 ?_ ?_ J5.out ?_)
                     exact rfl
                     exact rfl
                     intro W14 hb14 hk14
                     have L14 := hid hb14
                     have I5 := hid hk14
                     have I6 := hid (hb14.blk J6.out (fun e => HNE.out e.symm))
                     have I13 := hid (hb14.blk J13.out (fun e => by have : g13 = g5 := e; omega))
                     clear hb14 hk14)
                  | ((with_reducible refine wpList_load61 (Ot.slices j1 j2 j3 j4) g13 ?_ I13.out ?_); exact rfl)
                  | ((with_reducible refine wpList_store61 (Ot.slices j1 j2 j3 j4) (T.slices a' b' c' d') g6 ?_ ?_ I6.out ?_)
                     exact rfl
                     exact rfl
                     intro W15 hb15 hk15
                     have L15 := hid hb15
                     have F6 := hid hk15
                     have F5 := hid (hb15.blk I5.out (fun e => HNE.out e))
                     clear hb15 hk15))
                have L := (L14.out.into (D' := fun k => k = g5 ∨ k = g6) fun k e => .inl e).trans (L15.out.into (D' := fun k => k = g5 ∨ k = g6) fun k e => .inr e)
                have hBZ := L.done BW13.out (fun k e => by have := HL5.out; omega) BW13.out.size
                have hZ := (Z10.out.keep U13.out (fun _ _ h => h)).keep L (fun k hk e => by have := hk.1; have := hk.2; omega)
                have hY := (Y10.out.keep U13.out (fun _ _ h => h)).keep L (fun k hk e => by have := hk.1; have := hk.2; omega)
                have HBZ := hid hBZ
                have HZZ := hid hZ
                have HYY := hid hY
                clear L hBZ hZ hY
                go_roundw
                case measure => simp [intOf] <;> omega
                case rel => exact ⟨k + 1, Ot, Op_, s1, s2, s3, s4, j1, j2, j3, j4, by omega, by go_num, HBZ, F5, F6, HZZ, HYY, RO, ROR, ROK⟩
          · have hltz : ¬ (k : Int) < (n1 : Int) := by omega
            go_wp2_with fail
            go_ret
            exact ⟨rfl, BW.out⟩
  · have hkb : (t0.kind == 2) = false := by simpa using hk
    have hkn : (t0.kind != 2) = true := by simpa using hk
    go_enter Try.func23, Try.ntmps23
    go_wp2_with (first
      | (go_at_call 77
         with_reducible refine (alive77 _).mono ?_
         rintro e W1 ⟨rfl, hb1⟩
         have S1 := hid ((But.refl nil_ _).below hb1)
         have HB1 := hid (HB0.out.trans (hb1.mono HB0.out.size))
         have f1 := ((Blk.front (S1.out.blk HT0.out (fun h => h))).2.1)
         clear hb1)
      | fail)
    go_ret
    exact ⟨rfl, HB1.out⟩

theorem fits {H : Type} : ∀ ds : List (DataW H), ds.length = Try.f23.params.toList.length → Rows.gateMintsSpec.fn H ds = { results := [.lit (.bool true)], args := ds } := by
  intro ds h
  rw [Try.params23] at h
  match ds, h with
  | [e0, e1], _ => rfl

set_option maxRecDepth 100000 in
theorem lifted (os : Os) (started : os.Started) (H : Type) (enc : TypeId × Value → H) :
    ReturnsInHanded {} Try.checked os 23 .any (Rows.gateMintsSpec.pre6 enc Try.prog Try.f23 Rows.gateMintsRow.domain false) (Rows.gateMintsSpec.post enc Try.prog Try.f23 false true false false) := by
  refine returnsInHanded_of_change_sized (C := Try.checked) own started (by kernel_rfl) Try.func23
    (ChangeSpec.witness6 (enc := enc) (C := Try.checked) false ⟨#[], #[.agg #[.int .u64 0, .int .i64 0, .int .i64 0, .slice none 0 0, .int .i64 0, .slice none 0 0, .int .i64 0, .int .i64 0, .slice none 0 0, .slice none 0 0, .int .u64 0, .int .u64 0, .int .u64 0, .int .u64 0, .int .i64 0, .int .i64 0, .bool false, .int .u64 0, .int .u64 0, .int .u64 0, .int .u64 0, .int .u64 0, .int .u64 0, .int .u64 0, .int .u64 0, .int .u64 0], .slice none 0 0], []⟩ 8 (by kernel_rfl) (by kernel_rfl) (by kernel_rfl) (by kernel_rfl)) ?_
  intro W base args ds gs before hval0 hW hcnd hsz0 _
  have hval : ∀ (j : Nat) t v, Try.f23.params[j]? = some t → args[j]? = some v → Value.okWide Try.prog W .any base t v := hval0
  have hsz : (DataW.weightsEach Try.prog (Try.f23.params.toList ++ []) (ds ++ gs)).all (· ≤ reachBytes) = true := hsz0
  rw [Try.params23] at hsz
  have hpost : ∀ W', Below W.heap.size W W' → Rows.gateMintsSpec.post enc Try.prog Try.f23 false true false false W args (.bool true) W' := fun W' hb =>
    law_post rfl rfl Try.underlying4 laidOut (by kernel_rfl) fits hW hb
  obtain ⟨p, q, hA0, hV, rfl, hfz, hnd⟩ := hW
  have hA : DataW.TrodAll enc Try.prog W 0 (fun _ => true) true Try.f23.params.toList args.toList ds p := hA0
  rw [Try.params23] at hA hval
  obtain ⟨rfl, rfl⟩ := trodVars_none hV
  obtain ⟨v0, vs0, dd0, ds0, p0, q0, hargs, rfl, rfl, h0, hr0⟩ := trodAll_cons hA
  obtain ⟨v1, vs1, dd1, ds1, p1, q1, rfl, rfl, rfl, h1, hr1⟩ := trodAll_cons hr0
  obtain ⟨rfl, rfl, rfl⟩ := trodAll_nil hr1
  obtain rfl : args = #[v0, v1] := by cases args; simp_all
  have fit0 : Fits 61 dd0 := Fits.of_all hsz (j := 0) rfl rfl
  obtain ⟨t0, p0, rfl, X0, Y0, Z0⟩ := open_thing (hval 0 61 v0 rfl rfl) h0
  obtain ⟨A1, n1, c1, l1, rfl, T1⟩ := open_ints (hval 1 80 v1 rfl rfl) h1
  refine (walk t0 p0 A1 n1 c1 l1 W X0 Y0 T1 (Z0 fit0)).mono fun e W' ⟨he, hg⟩ => ?_
  subst he
  exact ⟨_, rfl, hpost W' hg⟩

theorem closed : joinedFacts Try.prog 23 Try.f23 Rows.gateMintsSpec Rows.gateMintsRow = true := by
  unfold joinedFacts
  rw [enters, finals, made]
  kernel_rfl

theorem over : Rows.gateMintsRow.holds Try.pinned (OpenSpec.ofChange Rows.gateMintsSpec) :=
  OpenClaim.holds_of_wide 23 Try.f23 rfl rfl rfl rfl rfl rfl rfl ⟨rfl, rfl, rfl, rfl, rfl⟩ rfl rfl rfl rfl rfl (by kernel_rfl) Try.func23 closed
    (of_decide_eq_true (by kernel_rfl)) (by unfold Func.isWrapper; rw [if_neg (by decide +kernel)]; exact ⟨rfl, rfl⟩)
    (fun os started H enc _ => lifted os started H enc)

theorem proved : Rows.GateMintsSaid := over
end Go.Proofs.Ytndohmimcbmhdaa.lawGateMints
