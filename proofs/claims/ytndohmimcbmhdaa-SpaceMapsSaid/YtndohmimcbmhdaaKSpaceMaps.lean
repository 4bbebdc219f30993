/-
  SpaceMaps: called with any values of its parameters, the law answers true, and of what lay in memory nothing has turned. No condition.
-/
import Derived.Test.YtndohmimcbmhdaaRows
import Derived.Test.YtndohmimcbmhdaaMz0
import Derived.Test.YtndohmimcbmhdaaMz2
import Derived.Test.YtndohmimcbmhdaaMx0
import Derived.Test.YtndohmimcbmhdaaMx1
set_option linter.unusedVariables false
set_option linter.unusedSimpArgs false
namespace Go.Proofs.Ytndohmimcbmhdaa.lawSpaceMaps
open Go.ChangeShapes Go.WideShapes Go.ChangeAt Go.RowKit Go.Sort

theorem own : ownKnob Try.prog.godebug = none := by kernel_rfl
theorem laidOut : laidOutB Try.prog = true := by kernel_rfl


set_option maxHeartbeats 16000000 in
set_option maxRecDepth 100000 in
theorem walk (t0 : Th) (p0 : Tl) (a1 : Int) (b1 : Int) (a2 : Int) (b2 : Int) (w : World) (x0 : ThAt w t0 p0) (y0 : ThR t0) (u1 : i64R a1) (v1 : i64R b1) (x2 : 0 ≤ a2 ∧ a2 ≤ 18446744073709551615) (y2 : 0 ≤ b2 ∧ b2 ≤ 18446744073709551615) (z0 : ThZ t0) :
    Calls Try.prog 18 #[.agg (thC t0), .agg #[.int .i64 a1, .int .i64 b1], .agg #[.int .u64 a2, .int .u64 b2]] w fun e w' => e = .returned (.bool true) ∧ Below w.heap.size w w' := by
  obtain ⟨p1, p2, p3, p4⟩ := three_blk w (thC t0) #[.int .i64 a1, .int .i64 b1] #[.int .u64 a2, .int .u64 b2] 61 63 52
  have HB0 := hid p1
  have HT0 := hid p2
  have HI0 := hid p3
  have HX0 := hid p4
  have H0 := hid (ThAt.below x0 p1)
  have HR := hid y0
  have HZ := hid z0
  have HX := hid (show u64R a2 ∧ u64R b2 from ⟨x2, y2⟩)
  clear p1 p2 p3 p4 x0 y0 z0 u1 v1 x2 y2
  by_cases hk : t0.kind = 5
  · have HK := hid hk
    have HK0 : Hid (∀ W, Blk W w.heap.size 61 (thC t0) → W.cell? ⟨w.heap.size, 1, none⟩ = some (.int .i64 5)) := fun W h => by rw [← HK.out]; exact (Blk.front h).2.1
    clear hk
    obtain ⟨r, hr⟩ : ∃ r, r = rref_5 t0 p0 := ⟨_, rfl⟩
    have HRR := hid hr
    clear hr
    have HREF : Hid (∀ W, ThAt W t0 p0 → Calls Try.prog 71 #[.agg (thC t0)] W fun e w' => e = .returned (.bool r) ∧ Below W.heap.size W w') := fun W hW => by rw [HRR.out]; exact ref71_5 W t0 p0 hW HR.out HK.out
    cases r with
    | false =>
      go_enter Try.func18, Try.ntmps18
      go_wp2_with (first
        | (go_at_call 70
           with_reducible refine (alive70 _).mono ?_
           rintro e W1 ⟨rfl, hb1⟩
           have S1 := hid ((But.refl nil_ _).below hb1)
           have HB1 := hid (HB0.out.trans (hb1.mono HB0.out.size))
           have f1 := HK0.out _ (S1.out.blk HT0.out (fun h => h))
           clear hb1)
        | ((with_reducible refine wpList_load61g t0 w.heap.size ?_ ?_ (S1.out.blk HT0.out (fun h => h)) ?_); exact rfl; exact rfl)
        | (go_at_call 71
           with_reducible refine (HREF.out _ (H0.out.since_ S1.out)).mono ?_
           rintro e W2 ⟨rfl, hb2⟩))
      go_ret
      exact ⟨rfl, HB1.out.trans (hb2.mono HB1.out.size)⟩
    | true =>
      have H5 := hid (right5_of HRR.out.symm)
      obtain ⟨m, hm⟩ : ∃ m, m = map74ok a1 a2 b2 := ⟨_, rfl⟩
      have HM : Hid (∀ W (a b c d : Sl), ThAt W (t0.slices a b c d) p0 → a.n ≤ 8796093022208 → b.n ≤ 8796093022208 → c.n ≤ 8796093022208 → d.n ≤ 140737488355328 → Calls Try.prog 73 #[.agg (thC (t0.slices a b c d)), .int .i64 a1, .agg #[.int .u64 a2, .int .u64 b2]] W fun e w' => ∃ a' b' c' d' : Sl, e = .returned (.tuple #[.agg (thC ((mapT m t0 a1 a2 b2).slices a' b' c' d')), .int .i64 (mapN m)]) ∧ ThAt w' ((mapT m t0 a1 a2 b2).slices a' b' c' d') p0 ∧ Below W.heap.size W w') := fun W a b c d h1 g1 g2 g3 g4 => by rw [hm]; exact mapped73 W t0 p0 a b c d a1 a2 b2 h1 HR.out HK.out HX.out.1 HX.out.2 g1 g2 g3 g4 H5.out
      have HM' : Hid (∀ W, Calls Try.prog 74 #[.agg (thC t0), .int .i64 a1, .agg #[.int .u64 a2, .int .u64 b2]] W fun e w' => e = .returned (.tuple #[.agg (thC (mapT m t0 a1 a2 b2)), .int .i64 (mapN m)]) ∧ Below W.heap.size W w') := fun W => by rw [hm]; exact mapped74 W t0 a1 a2 b2
      have HT : Hid (Right5 (mapT m t0 a1 a2 b2) p0) := by show Right5 _ _; rw [hm]; exact mapT_right H5.out _ _ _
      have HTR := hid (mapT_R HR.out m a1 HX.out.1 HX.out.2)
      have HTK := hid (mapT_kind HK.out m a1 a2 b2)
      have HREF2 : Hid (∀ W (a b c d : Sl), ThAt W (mapT m t0 a1 a2 b2 |>.slices a b c d) p0 → Calls Try.prog 71 #[.agg (thC ((mapT m t0 a1 a2 b2).slices a b c d))] W fun e w' => e = .returned (.bool true) ∧ Below W.heap.size W w') := fun W a b c d hW => by
        have := ref71_5 W ((mapT m t0 a1 a2 b2).slices a b c d) p0 hW (slices_R HTR.out _ _ _ _) HTK.out
        rwa [show rref_5 ((mapT m t0 a1 a2 b2).slices a b c d) p0 = true from HT.out.to] at this
      have HTA := hid (fun W (h : ThAt W t0 p0) => mapT_at h m a1 a2 b2)
      clear hm
      generalize mapT m t0 a1 a2 b2 = T at *
      generalize mapN m = N at *
      obtain ⟨gu, gv, gn, gg, hw⟩ := whereV_parts T b1
      have HW := hid hw
      have HWH : Hid (∀ W (a b c d : Sl), Calls Try.prog 68 #[.agg (thC (T.slices a b c d)), .int .i64 b1] W fun e w' => e = .returned (.tuple #[.agg #[.int .u64 gu, .int .u64 gv], .int .i64 gn, .int .i64 gg]) ∧ Below W.heap.size W w') := fun W a b c d => by have := where68 W (T.slices a b c d) b1; rw [whereV_slices, HW.out] at this; exact this
      have HWH' : Hid (∀ W, Calls Try.prog 76 #[.agg (thC T), .int .i64 b1] W fun e w' => e = .returned (.tuple #[.agg #[.int .u64 gu, .int .u64 gv], .int .i64 gn, .int .i64 gg]) ∧ Below W.heap.size W w') := fun W => by have := where76 W T b1; rw [HW.out] at this; exact this
      clear hw
      go_enter Try.func18, Try.ntmps18
      go_wp2_with (first
        | (go_at_call 70
           with_reducible refine (alive70 _).mono ?_
           rintro e W1 ⟨rfl, hb1⟩
           have S1 := hid ((But.refl nil_ _).below hb1)
           have HB1 := hid (HB0.out.trans (hb1.mono HB0.out.size))
           have f1 := HK0.out _ (S1.out.blk HT0.out (fun h => h))
           clear hb1)
        | ((with_reducible refine wpList_load61g t0 w.heap.size ?_ ?_ (S1.out.blk HT0.out (fun h => h)) ?_); exact rfl; exact rfl)
        | (go_at_call 71
           with_reducible refine (HREF.out _ (H0.out.since_ S1.out)).mono ?_
           rintro e W2 ⟨rfl, hb2⟩
           have S2 := hid (S1.out.below hb2)
           have HB2 := hid (HB1.out.trans (hb2.mono HB1.out.size))
           clear hb2 f1)
        | ((with_reducible refine wpList_load61 t0 w.heap.size ?_ (S2.out.blk HT0.out (fun h => h)) ?_); exact rfl)
        | (go_at_call 72
           with_reducible refine (copy72 _ t0 p0 (H0.out.since_ S2.out) (Nat.le_succ_of_le HZ.out.z1) (Nat.le_succ_of_le HZ.out.z2) (Nat.le_succ_of_le HZ.out.z3) HZ.out.z4).mono ?_
           rintro e W3 ⟨o1, o2, o3, o4, rfl, ha, hb, hc, hd, hb3⟩
           have S3 := hid (S2.out.below hb3)
           have HB3 := hid (HB2.out.trans (hb3.mono HB2.out.size))
           have HO3 := hid (show ThAt W3 (t0.slices o1 o2 o3 o4) p0 from ⟨ha.1, hb.1, hc.1, hd.1⟩)
           have N1 := hid (show o1.n ≤ 8796093022208 from by have h1 : p0.l1.length = o1.n := ha.1.len; have h2 : p0.l1.length = t0.l1.n := H0.out.c1.len; have := HZ.out.z1; omega)
           have N2 := hid (show o2.n ≤ 8796093022208 from by have h1 : p0.l2.length = o2.n := hb.1.len; have h2 : p0.l2.length = t0.l2.n := H0.out.c2.len; have := HZ.out.z2; omega)
           have N3 := hid (show o3.n ≤ 8796093022208 from by have h1 : p0.links.length = o3.n := hc.1.len; have h2 : p0.links.length = t0.links.n := H0.out.lk.len; have := HZ.out.z3; omega)
           have N4 := hid (show o4.n ≤ 140737488355328 from by have h1 : p0.data.length = o4.n := hd.1.len; have h2 : p0.data.length = t0.data.n := H0.out.dt.len; have := HZ.out.z4; omega)
           clear ha hb hc hd hb3)
        | ((with_reducible refine wpList_new61 (t0.slices o1 o2 o3 o4) ?_ ?_ ?_)
           exact rfl
           exact rfl
           have S4 : Hid (But nil_ W3 (W3.alloc (.cells (thC (t0.slices o1 o2 o3 o4)) 61))) := (But.refl nil_ W3).alloc _
           have HB4 := hid (HB3.out.alloc HB3.out.size (.cells (thC (t0.slices o1 o2 o3 o4)) 61))
           have HG4 : Hid (Blk (W3.alloc (.cells (thC (t0.slices o1 o2 o3 o4)) 61)) W3.heap.size 61 (thC (t0.slices o1 o2 o3 o4))) := Blk.new W3 61 _
           generalize W3.alloc (.cells (thC (t0.slices o1 o2 o3 o4)) 61) = W4 at *
           generalize W3.heap.size = g4 at *
           have T4 := hid (S3.out.trans S4.out)
           obtain ⟨c1, c2⟩ := Blk.cells2 (T4.out.blk HI0.out (fun h => h))
           obtain ⟨c3, c4⟩ := Blk.cells2 (T4.out.blk HX0.out (fun h => h)))
        | ((with_reducible refine wpList_load61 (t0.slices o1 o2 o3 o4) g4 ?_ HG4.out ?_); exact rfl)
        | (go_at_call 73
           with_reducible refine (HM.out _ o1 o2 o3 o4 (HO3.out.since_ S4.out) N1.out N2.out N3.out N4.out).mono ?_
           rintro e W5 ⟨q1, q2, q3, q4, rfl, ha, hb5⟩
           have S5 := hid ((But.refl nil_ W4).below hb5)
           have HB5 := hid (HB4.out.trans (hb5.mono HB4.out.size))
           have HA5 := hid ha
           clear ha hb5 c1 c2 c3 c4)
        | ((with_reducible refine wpList_new61 (T.slices q1 q2 q3 q4) ?_ ?_ ?_)
           exact rfl
           exact rfl
           have S6 : Hid (But nil_ W5 (W5.alloc (.cells (thC (T.slices q1 q2 q3 q4)) 61))) := (But.refl nil_ W5).alloc _
           have HB6 := hid (HB5.out.alloc HB5.out.size (.cells (thC (T.slices q1 q2 q3 q4)) 61))
           have HG6 : Hid (Blk (W5.alloc (.cells (thC (T.slices q1 q2 q3 q4)) 61)) W5.heap.size 61 (thC (T.slices q1 q2 q3 q4))) := Blk.new W5 61 _
           generalize W5.alloc (.cells (thC (T.slices q1 q2 q3 q4)) 61) = W6 at *
           generalize W5.heap.size = g6 at *
           have T6 := hid (T4.out.trans (S5.out.trans S6.out))
           obtain ⟨c1, c2⟩ := Blk.cells2 (T6.out.blk HI0.out (fun h => h))
           obtain ⟨c3, c4⟩ := Blk.cells2 (T6.out.blk HX0.out (fun h => h)))
        | ((with_reducible refine wpList_load61 t0 w.heap.size ?_ (T6.out.blk HT0.out (fun h => h)) ?_); exact rfl)
        | (go_at_call 74
           with_reducible refine (HM'.out _).mono ?_
           rintro e W7 ⟨rfl, hb7⟩
           have S7 := hid ((But.refl nil_ W6).below hb7)
           have HB7 := hid (HB6.out.trans (hb7.mono HB6.out.size))
           clear hb7 c1 c2 c3 c4)
        | ((with_reducible refine wpList_new61 T ?_ ?_ ?_)
           exact rfl
           exact rfl
           have S8 : Hid (But nil_ W7 (W7.alloc (.cells (thC T) 61))) := (But.refl nil_ W7).alloc _
           have HB8 := hid (HB7.out.alloc HB7.out.size (.cells (thC T) 61))
           have HG8 : Hid (Blk (W7.alloc (.cells (thC T) 61)) W7.heap.size 61 (thC T)) := Blk.new W7 61 _
           generalize W7.alloc (.cells (thC T) 61) = W8 at *
           generalize W7.heap.size = g8 at *
           have T8 := hid (S7.out.trans S8.out)
           have HA8 := hid ((HA5.out.since_ S6.out).since_ T8.out)
           have HO8 := hid ((HO3.out.since_ S4.out).since_ (S5.out.trans (S6.out.trans T8.out)))
           have H8 := hid ((H0.out.since_ T6.out).since_ T8.out)
           have HK6 := hid (T8.out.blk HG6.out (fun h => h))
           have HK4 := hid ((S5.out.trans (S6.out.trans T8.out)).blk HG4.out (fun h => h))
           have HK0 := hid ((T6.out.trans T8.out).blk HT0.out (fun h => h))
           have HI8 := hid ((T6.out.trans T8.out).blk HI0.out (fun h => h))
           skip)
        | ((with_reducible refine wpList_load61 (T.slices q1 q2 q3 q4) g6 ?_ HK6.out ?_); exact rfl)
        | ((with_reducible refine wpList_load61 T g8 ?_ HG8.out ?_); exact rfl)
        | (go_at_call 75
           with_reducible refine (same75 W8 (T.slices q1 q2 q3 q4) T p0 p0 HA8.out (HTA.out _ H8.out)).mono ?_
           rw [show sameT (T.slices q1 q2 q3 q4) p0 T p0 = true from sameT_refl T p0]
           rintro e W9 ⟨rfl, hb9⟩
           have S9 := hid ((But.refl nil_ W8).below hb9)
           have HB9 := hid (HB8.out.trans (hb9.mono HB8.out.size))
           clear hb9)
        | ((with_reducible refine wpList_load61g (t0.slices o1 o2 o3 o4) g4 ?_ ?_ (S9.out.blk HK4.out (fun h => h)) ?_); exact rfl; exact rfl)
        | ((with_reducible refine wpList_load61g t0 w.heap.size ?_ ?_ (S9.out.blk HK0.out (fun h => h)) ?_); exact rfl; exact rfl)
        | (go_at_call 75
           with_reducible refine (same75 W9 (t0.slices o1 o2 o3 o4) t0 p0 p0 (HO8.out.since_ S9.out) (H8.out.since_ S9.out)).mono ?_
           rw [show sameT (t0.slices o1 o2 o3 o4) p0 t0 p0 = true from sameT_refl t0 p0]
           rintro e W10 ⟨rfl, hb10⟩
           have S10 := hid (S9.out.below hb10)
           have HB10 := hid (HB9.out.trans (hb10.mono HB9.out.size))
           clear hb10)
        | ((with_reducible refine wpList_load61g (T.slices q1 q2 q3 q4) g6 ?_ ?_ (S10.out.blk HK6.out (fun h => h)) ?_); exact rfl; exact rfl)
        | (go_at_call 71
           with_reducible refine (HREF2.out W10 q1 q2 q3 q4 (HA8.out.since_ S10.out)).mono ?_
           rintro e W11 ⟨rfl, hb11⟩
           have S11 := hid (S10.out.below hb11)
           have HB11 := hid (HB10.out.trans (hb11.mono HB10.out.size))
           obtain ⟨c1, c2⟩ := Blk.cells2 (S11.out.blk HI8.out (fun h => h))
           clear hb11)
        | ((with_reducible refine wpList_load61 (T.slices q1 q2 q3 q4) g6 ?_ (S11.out.blk HK6.out (fun h => h)) ?_); exact rfl)
        | (go_at_call 68
           with_reducible refine (HWH.out _ _ _ _ _).mono ?_
           rintro e W12 ⟨rfl, hb12⟩
           have S12 := hid (S11.out.below hb12)
           have HB12 := hid (HB11.out.trans (hb12.mono HB11.out.size))
           clear hb12 c1 c2)
        | ((with_reducible refine wpList_new52 gu gv ?_ ?_ ?_)
           exact rfl
           exact rfl
           have HB15 := hid (HB14.out.alloc HB14.out.size (.cells #[.int .u64 gu, .int .u64 gv] 52))
           have HG15 : Hid (Blk (W14.alloc (.cells #[.int .u64 gu, .int .u64 gv] 52)) W14.heap.size 52 #[.int .u64 gu, .int .u64 gv]) := Blk.new W14 52 _
           have HH15 := hid (HG14.out.alloc (.cells #[.int .u64 gu, .int .u64 gv] 52))
           generalize W14.alloc (.cells #[.int .u64 gu, .int .u64 gv] 52) = W15 at *
           obtain ⟨d1, d2⟩ := Blk.cells2 HG15.out
           obtain ⟨d3, d4⟩ := Blk.cells2 HH15.out)
        | ((with_reducible refine wpList_new52 gu gv ?_ ?_ ?_)
           exact rfl
           exact rfl
           have S13 := hid (S12.out.alloc (.cells #[.int .u64 gu, .int .u64 gv] 52))
           have HB13 := hid (HB12.out.alloc HB12.out.size (.cells #[.int .u64 gu, .int .u64 gv] 52))
           have HG13 : Hid (Blk (W12.alloc (.cells #[.int .u64 gu, .int .u64 gv] 52)) W12.heap.size 52 #[.int .u64 gu, .int .u64 gv]) := Blk.new W12 52 _
           generalize W12.alloc (.cells #[.int .u64 gu, .int .u64 gv] 52) = W13 at *
           generalize W12.heap.size = g13 at *
           obtain ⟨c1, c2⟩ := Blk.cells2 (S13.out.blk HI8.out (fun h => h)))
        | ((with_reducible refine wpList_load61 T g8 ?_ (S13.out.blk HG8.out (fun h => h)) ?_); exact rfl)
        | (go_at_call 76
           with_reducible refine (HWH'.out _).mono ?_
           rintro e W14 ⟨rfl, hb14⟩
           have S14 := hid ((But.refl nil_ W13).below hb14)
           have HB14 := hid (HB13.out.trans (hb14.mono HB13.out.size))
           have HG14 := hid (S14.out.blk HG13.out (fun h => h))
           clear hb14 c1 c2))
      go_ret
      exact ⟨rfl, HB15.out⟩
  · have hkb : (t0.kind == 5) = false := by simpa using hk
    have hkn : (t0.kind != 5) = true := by simpa using hk
    go_enter Try.func18, Try.ntmps18
    go_wp2_with (first
      | (go_at_call 70
         with_reducible refine (alive70 _).mono ?_
         rintro e W1 ⟨rfl, hb1⟩
         have HB1 := hid (HB0.out.trans (hb1.mono HB0.out.size))
         have f1 := (Blk.front (HT0.out.below hb1 HT0.out.lt)).2.1
         clear hb1))
    go_ret
    exact ⟨rfl, HB1.out⟩

theorem fits {H : Type} : ∀ ds : List (DataW H), ds.length = Try.f18.params.toList.length → Rows.spaceMapsSpec.fn H ds = { results := [.lit (.bool true)], args := ds } := by
  intro ds h
  rw [Try.params18] at h
  match ds, h with
  | [e0, e1, e2], _ => rfl

set_option maxRecDepth 100000 in
theorem lifted (os : Os) (started : os.Started) (H : Type) (enc : TypeId × Value → H) :
    ReturnsInHanded {} Try.checked os 18 .any (Rows.spaceMapsSpec.pre6 enc Try.prog Try.f18 Rows.spaceMapsRow.domain false) (Rows.spaceMapsSpec.post enc Try.prog Try.f18 false true false false) := by
  refine returnsInHanded_of_change_sized (C := Try.checked) own started (by kernel_rfl) Try.func18
    (ChangeSpec.witness6 (enc := enc) (C := Try.checked) false ⟨#[], #[.agg #[.int .u64 0, .int .i64 0, .int .i64 0, .slice none 0 0, .int .i64 0, .slice none 0 0, .int .i64 0, .int .i64 0, .slice none 0 0, .slice none 0 0, .int .u64 0, .int .u64 0, .int .u64 0, .int .u64 0, .int .i64 0, .int .i64 0, .bool false, .int .u64 0, .int .u64 0, .int .u64 0, .int .u64 0, .int .u64 0, .int .u64 0, .int .u64 0, .int .u64 0, .int .u64 0], .agg #[.int .i64 0, .int .i64 0], .agg #[.int .u64 0, .int .u64 0]], []⟩ 8 (by kernel_rfl) (by kernel_rfl) (by kernel_rfl) (by kernel_rfl)) ?_
  intro W base args ds gs before hval0 hW hcnd hsz0 _
  have hval : ∀ (j : Nat) t v, Try.f18.params[j]? = some t → args[j]? = some v → Value.okWide Try.prog W .any base t v := hval0
  have hsz : (DataW.weightsEach Try.prog (Try.f18.params.toList ++ []) (ds ++ gs)).all (· ≤ reachBytes) = true := hsz0
  rw [Try.params18] at hsz
  have hpost : ∀ W', Below W.heap.size W W' → Rows.spaceMapsSpec.post enc Try.prog Try.f18 false true false false W args (.bool true) W' := fun W' hb =>
    law_post rfl rfl Try.underlying4 laidOut (by kernel_rfl) fits hW hb
  obtain ⟨p, q, hA0, hV, rfl, hfz, hnd⟩ := hW
  have hA : DataW.TrodAll enc Try.prog W 0 (fun _ => true) true Try.f18.params.toList args.toList ds p := hA0
  rw [Try.params18] at hA hval
  obtain ⟨rfl, rfl⟩ := trodVars_none hV
  obtain ⟨v0, vs0, dd0, ds0, p0, q0, hargs, rfl, rfl, h0, hr0⟩ := trodAll_cons hA
  obtain ⟨v1, vs1, dd1, ds1, p1, q1, rfl, rfl, rfl, h1, hr1⟩ := trodAll_cons hr0
  obtain ⟨v2, vs2, dd2, ds2, p2, q2, rfl, rfl, rfl, h2, hr2⟩ := trodAll_cons hr1
  obtain ⟨rfl, rfl, rfl⟩ := trodAll_nil hr2
  obtain rfl : args = #[v0, v1, v2] := by cases args; simp_all
  have fit0 : Fits 61 dd0 := Fits.of_all hsz (j := 0) rfl rfl
  obtain ⟨t0, p0, rfl, X0, Y0, Z0⟩ := open_thing (hval 0 61 v0 rfl rfl) h0
  obtain ⟨a1, b1, rfl, U1, V1⟩ := open_ints2 (hval 1 63 v1 rfl rfl) h1
  obtain ⟨a2, b2, rfl, X2, Y2⟩ := open_slot (hval 2 52 v2 rfl rfl) h2
  refine (walk t0 p0 a1 b1 a2 b2 W X0 Y0 U1 V1 X2 Y2 (Z0 fit0)).mono fun e W' ⟨he, hg⟩ => ?_
  subst he
  exact ⟨_, rfl, hpost W' hg⟩

theorem closed : joinedFacts Try.prog 18 Try.f18 Rows.spaceMapsSpec Rows.spaceMapsRow = true := by
  unfold joinedFacts
  rw [enters, finals, made]
  kernel_rfl

theorem over : Rows.spaceMapsRow.holds Try.pinned (OpenSpec.ofChange Rows.spaceMapsSpec) :=
  OpenClaim.holds_of_wide 18 Try.f18 rfl rfl rfl rfl rfl rfl rfl ⟨rfl, rfl, rfl, rfl, rfl⟩ rfl rfl rfl rfl rfl (by kernel_rfl) Try.func18 closed
    (of_decide_eq_true (by kernel_rfl)) (by unfold Func.isWrapper; rw [if_neg (by decide +kernel)]; exact ⟨rfl, rfl⟩)
    (fun os started H enc _ => lifted os started H enc)

theorem proved : Rows.SpaceMapsSaid := over
end Go.Proofs.Ytndohmimcbmhdaa.lawSpaceMaps
