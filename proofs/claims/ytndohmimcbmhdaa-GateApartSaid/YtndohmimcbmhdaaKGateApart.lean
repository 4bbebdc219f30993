/-
  GateApart: called with any values of its parameters, the law answers true, and of what lay in memory nothing has turned. No condition.
-/
import Derived.Test.YtndohmimcbmhdaaRows
import Derived.Test.YtndohmimcbmhdaaMz0
import Derived.Test.YtndohmimcbmhdaaMz2
import Derived.Test.YtndohmimcbmhdaaNe0
import Derived.Test.YtndohmimcbmhdaaNb3
set_option linter.unusedVariables false
set_option linter.unusedSimpArgs false
namespace Go.Proofs.Ytndohmimcbmhdaa.lawGateApart
open Go.ChangeShapes Go.WideShapes Go.ChangeAt Go.RowKit Go.Sort

theorem own : ownKnob Try.prog.godebug = none := by kernel_rfl
theorem laidOut : laidOutB Try.prog = true := by kernel_rfl

theorem own_but {D : Nat → Prop} {w w' : World} {B : Nat} {v : Value} {l : List Int} (h : OwnU w B v l) (hb : But D w w') (hD : ∀ k, v.ownBlock = some k → ¬ D k) : OwnU w' B v l := by
  have hlt := World.ownsRow.lt h
  refine ⟨h.1, ?_⟩
  rcases h.2 with h | ⟨g, cap, cur, e, hB, hg, r⟩
  · exact .inl h
  · refine .inr ⟨g, cap, cur, e, hB, ?_, r⟩
    have eo : v.ownBlock = some g := by rw [e]; rfl
    rw [hb.block g (hlt g eo).2 (hD g eo)]
    exact hg
theorem push_but {wj w1 : World} {B : Nat} {o : Obj} {v v1 : Value} {l : List Int} {x : Int} (ho : w1.ownsRow B 24 1 v1 (l.length + 1) (nums l ++ [.int .u64 x])) (hgr : (wj.alloc o).grownBy w1 v.ownBlock) : OwnU w1 B v1 (l ++ [x]) ∧ But (fun k => v.ownBlock = some k) wj w1 :=
  ⟨OwnU.of (by rw [List.length_append, nums_append]; exact ho), ((But.refl (fun k => v.ownBlock = some k) wj).alloc o).trans ⟨hgr.os, hgr.tape, hgr.output, hgr.size, fun k hk hn => hgr.block k hk (fun e => hn e.symm)⟩⟩

set_option maxHeartbeats 16000000 in
set_option maxRecDepth 100000 in
theorem walk (t0 : Th) (p0 : Tl) (t1 : Th) (p1 : Tl) (A2 : Option Addr) (n2 : Nat) (c2 : Nat) (l2 : List Int) (w : World) (x0 : ThAt w t0 p0) (y0 : ThR t0) (x1 : ThAt w t1 p1) (y1 : ThR t1) (t2 : IntsAt w w.heap.size A2 n2 c2 l2) (z0 : ThZ t0) (z1 : ThZ t1) :
    Calls Try.prog 25 #[.agg (thC t0), .agg (thC t1), .slice A2 n2 c2] w fun e w' => e = .returned (.bool true) ∧ Below w.heap.size w w' := by
  obtain ⟨i0, hi0, hz0, hz1, hz2⟩ := info_parts u64_info
  obtain ⟨q0, q1, q2⟩ := two_blk w (thC t0) (thC t1) 61 61
  have HB0 := hid q0
  have HT0 := hid q1
  have HU0 := hid q2
  have H0 := hid (ThAt.below x0 q0)
  have H1 := hid (ThAt.below x1 q0)
  have HIN := hid t2
  have HR := hid y0
  have HR1 := hid y1
  have HZ := hid z0
  have HZ1 := hid z1
  clear q0 q1 q2 x0 y0 z0 x1 y1 z1 t2
  by_cases hk : t0.kind = 2
  · have HK := hid hk
    have HK0 : Hid (∀ W, Blk W w.heap.size 61 (thC t0) → W.cell? ⟨w.heap.size, 1, none⟩ = some (.int .i64 2)) := fun W h => by rw [← HK.out]; exact (Blk.front h).2.1
    clear hk
    by_cases hk1 : t1.kind = 2
    · have HK1 := hid hk1
      have HK2 : Hid (∀ W, Blk W (w.heap.size + 1) 61 (thC t1) → W.cell? ⟨w.heap.size + 1, 1, none⟩ = some (.int .i64 2)) := fun W h => by rw [← HK1.out]; exact (Blk.front h).2.1
      clear hk1
      obtain ⟨r, hr⟩ : ∃ r, r = rref_2 t0 p0 := ⟨_, rfl⟩
      have HRR := hid hr
      clear hr
      have HREF : Hid (∀ W, ThAt W t0 p0 → Calls Try.prog 71 #[.agg (thC t0)] W fun e w' => e = .returned (.bool r) ∧ Below W.heap.size W w') := fun W hW => by rw [HRR.out]; exact ref71_2 W t0 p0 hW HR.out HK.out
      obtain ⟨r1, hr1⟩ : ∃ r, r = rref_2 t1 p1 := ⟨_, rfl⟩
      have HRR1 := hid hr1
      clear hr1
      have HREF1 : Hid (∀ W, ThAt W t1 p1 → Calls Try.prog 71 #[.agg (thC t1)] W fun e w' => e = .returned (.bool r1) ∧ Below W.heap.size W w') := fun W hW => by rw [HRR1.out]; exact ref71_2 W t1 p1 hW HR1.out HK1.out
      cases r with
      | false =>
        go_enter Try.func25, Try.ntmps25
        go_wp2_with (first
          | (go_at_call 77
             with_reducible refine (alive77 _).mono ?_
             rintro e W1 ⟨rfl, hb1⟩
             have S1 := hid ((But.refl nil_ _).below hb1)
             have HB1 := hid (HB0.out.trans (hb1.mono HB0.out.size))
             have f1 := (HK0.out _ (S1.out.blk HT0.out (fun h => h)))
             have f2 := (HK2.out _ (S1.out.blk HU0.out (fun h => h)))
             clear hb1)
          | ((with_reducible refine wpList_load61g t0 w.heap.size ?_ ?_ (S1.out.blk HT0.out (fun h => h)) ?_); exact rfl; exact rfl)
          | (go_at_call 71
             with_reducible refine (HREF.out _ (H0.out.since_ S1.out)).mono ?_
             rintro e W2 ⟨rfl, hb2⟩
             have S2 := hid (S1.out.below hb2)
             have HB2 := hid (HB1.out.trans (hb2.mono HB1.out.size))
             clear hb2 f1 f2)
          | ((with_reducible refine wpList_load61g t1 (w.heap.size + 1) ?_ ?_ (S2.out.blk HU0.out (fun h => h)) ?_); exact rfl; exact rfl)
          | (go_at_call 71
             with_reducible refine (HREF1.out _ (H1.out.since_ S2.out)).mono ?_
             rintro e W3 ⟨rfl, hb3⟩
             have S3 := hid (S2.out.below hb3)
             have HB3 := hid (HB2.out.trans (hb3.mono HB2.out.size))
             have f3 := (Blk.front (S3.out.blk HT0.out (fun h => h))).1
             have f4 := (Blk.front (S3.out.blk HU0.out (fun h => h))).1
             clear hb3)
          | fail)
        go_ret
        exact ⟨rfl, HB2.out⟩
      | true =>
        cases r1 with
        | false =>
          go_enter Try.func25, Try.ntmps25
          go_wp2_with (first
            | (go_at_call 77
               with_reducible refine (alive77 _).mono ?_
               rintro e W1 ⟨rfl, hb1⟩
               have S1 := hid ((But.refl nil_ _).below hb1)
               have HB1 := hid (HB0.out.trans (hb1.mono HB0.out.size))
               have f1 := (HK0.out _ (S1.out.blk HT0.out (fun h => h)))
               have f2 := (HK2.out _ (S1.out.blk HU0.out (fun h => h)))
               clear hb1)
            | ((with_reducible refine wpList_load61g t0 w.heap.size ?_ ?_ (S1.out.blk HT0.out (fun h => h)) ?_); exact rfl; exact rfl)
            | (go_at_call 71
               with_reducible refine (HREF.out _ (H0.out.since_ S1.out)).mono ?_
               rintro e W2 ⟨rfl, hb2⟩
               have S2 := hid (S1.out.below hb2)
               have HB2 := hid (HB1.out.trans (hb2.mono HB1.out.size))
               clear hb2 f1 f2)
            | ((with_reducible refine wpList_load61g t1 (w.heap.size + 1) ?_ ?_ (S2.out.blk HU0.out (fun h => h)) ?_); exact rfl; exact rfl)
            | (go_at_call 71
               with_reducible refine (HREF1.out _ (H1.out.since_ S2.out)).mono ?_
               rintro e W3 ⟨rfl, hb3⟩
               have S3 := hid (S2.out.below hb3)
               have HB3 := hid (HB2.out.trans (hb3.mono HB2.out.size))
               have f3 := (Blk.front (S3.out.blk HT0.out (fun h => h))).1
               have f4 := (Blk.front (S3.out.blk HU0.out (fun h => h))).1
               clear hb3)
            | fail)
          go_ret
          exact ⟨rfl, HB3.out⟩
        | true =>
          have H2 := hid (right2_of HRR.out.symm)
          have H3 := hid (right2_of HRR1.out.symm)
          by_cases hid1 : t0.id = t1.id
          · have hidb : (t0.id == t1.id) = true := by simpa using hid1
            go_enter Try.func25, Try.ntmps25
            go_wp2_with (first
              | (go_at_call 77
                 with_reducible refine (alive77 _).mono ?_
                 rintro e W1 ⟨rfl, hb1⟩
                 have S1 := hid ((But.refl nil_ _).below hb1)
                 have HB1 := hid (HB0.out.trans (hb1.mono HB0.out.size))
                 have f1 := (HK0.out _ (S1.out.blk HT0.out (fun h => h)))
                 have f2 := (HK2.out _ (S1.out.blk HU0.out (fun h => h)))
                 clear hb1)
              | ((with_reducible refine wpList_load61g t0 w.heap.size ?_ ?_ (S1.out.blk HT0.out (fun h => h)) ?_); exact rfl; exact rfl)
              | (go_at_call 71
                 with_reducible refine (HREF.out _ (H0.out.since_ S1.out)).mono ?_
                 rintro e W2 ⟨rfl, hb2⟩
                 have S2 := hid (S1.out.below hb2)
                 have HB2 := hid (HB1.out.trans (hb2.mono HB1.out.size))
                 clear hb2 f1 f2)
              | ((with_reducible refine wpList_load61g t1 (w.heap.size + 1) ?_ ?_ (S2.out.blk HU0.out (fun h => h)) ?_); exact rfl; exact rfl)
              | (go_at_call 71
                 with_reducible refine (HREF1.out _ (H1.out.since_ S2.out)).mono ?_
                 rintro e W3 ⟨rfl, hb3⟩
                 have S3 := hid (S2.out.below hb3)
                 have HB3 := hid (HB2.out.trans (hb3.mono HB2.out.size))
                 have f3 := (Blk.front (S3.out.blk HT0.out (fun h => h))).1
                 have f4 := (Blk.front (S3.out.blk HU0.out (fun h => h))).1
                 clear hb3)
              | fail)
            go_ret
            exact ⟨rfl, HB3.out⟩
          · have hidb : (t0.id == t1.id) = false := by simpa using hid1
            by_cases hn : 60 < n2
            · have hnz : (60 : Int) < (n2 : Int) := by omega
              go_enter Try.func25, Try.ntmps25
              go_wp2_with (first
                | (go_at_call 77
                   with_reducible refine (alive77 _).mono ?_
                   rintro e W1 ⟨rfl, hb1⟩
                   have S1 := hid ((But.refl nil_ _).below hb1)
                   have HB1 := hid (HB0.out.trans (hb1.mono HB0.out.size))
                   have f1 := (HK0.out _ (S1.out.blk HT0.out (fun h => h)))
                   have f2 := (HK2.out _ (S1.out.blk HU0.out (fun h => h)))
                   clear hb1)
                | ((with_reducible refine wpList_load61g t0 w.heap.size ?_ ?_ (S1.out.blk HT0.out (fun h => h)) ?_); exact rfl; exact rfl)
                | (go_at_call 71
                   with_reducible refine (HREF.out _ (H0.out.since_ S1.out)).mono ?_
                   rintro e W2 ⟨rfl, hb2⟩
                   have S2 := hid (S1.out.below hb2)
                   have HB2 := hid (HB1.out.trans (hb2.mono HB1.out.size))
                   clear hb2 f1 f2)
                | ((with_reducible refine wpList_load61g t1 (w.heap.size + 1) ?_ ?_ (S2.out.blk HU0.out (fun h => h)) ?_); exact rfl; exact rfl)
                | (go_at_call 71
                   with_reducible refine (HREF1.out _ (H1.out.since_ S2.out)).mono ?_
                   rintro e W3 ⟨rfl, hb3⟩
                   have S3 := hid (S2.out.below hb3)
                   have HB3 := hid (HB2.out.trans (hb3.mono HB2.out.size))
                   have f3 := (Blk.front (S3.out.blk HT0.out (fun h => h))).1
                   have f4 := (Blk.front (S3.out.blk HU0.out (fun h => h))).1
                   clear hb3)
                | fail)
              go_ret
              exact ⟨rfl, HB3.out⟩
            · have hnz : ¬ (60 : Int) < (n2 : Int) := by omega
              have HNE := hid hid1
              have A0 := hid (apt_start H0.out H2.out)
              have A1 := hid (apt_start H1.out H3.out)
              go_enter Try.func25, Try.ntmps25
              go_wp2_with (first
                | (go_at_call 77
                   with_reducible refine (alive77 _).mono ?_
                   rintro e W1 ⟨rfl, hb1⟩
                   have S1 := hid ((But.refl nil_ _).below hb1)
                   have HB1 := hid (HB0.out.trans (hb1.mono HB0.out.size))
                   have f1 := (HK0.out _ (S1.out.blk HT0.out (fun h => h)))
                   have f2 := (HK2.out _ (S1.out.blk HU0.out (fun h => h)))
                   clear hb1)
                | ((with_reducible refine wpList_load61g t0 w.heap.size ?_ ?_ (S1.out.blk HT0.out (fun h => h)) ?_); exact rfl; exact rfl)
                | (go_at_call 71
                   with_reducible refine (HREF.out _ (H0.out.since_ S1.out)).mono ?_
                   rintro e W2 ⟨rfl, hb2⟩
                   have S2 := hid (S1.out.below hb2)
                   have HB2 := hid (HB1.out.trans (hb2.mono HB1.out.size))
                   clear hb2 f1 f2)
                | ((with_reducible refine wpList_load61g t1 (w.heap.size + 1) ?_ ?_ (S2.out.blk HU0.out (fun h => h)) ?_); exact rfl; exact rfl)
                | (go_at_call 71
                   with_reducible refine (HREF1.out _ (H1.out.since_ S2.out)).mono ?_
                   rintro e W3 ⟨rfl, hb3⟩
                   have S3 := hid (S2.out.below hb3)
                   have HB3 := hid (HB2.out.trans (hb3.mono HB2.out.size))
                   have f3 := (Blk.front (S3.out.blk HT0.out (fun h => h))).1
                   have f4 := (Blk.front (S3.out.blk HU0.out (fun h => h))).1
                   clear hb3)
                | ((with_reducible refine wpList_put61 t1 { t1 with boot := 0 } (w.heap.size + 1) 15 (.int .i64 0) [.int .i64 0] ?_ ?_ HU5.out ?_ ?_ ?_ ?_ ?_ ?_)
                   exact rfl
                   exact rfl
                   exact rfl
                   kernel_rfl
                   exact (by decide : (15 : Nat) + 1 ≤ 26)
                   exact one_of rfl
                   exact rfl
                   intro W6 hb6 hk6
                   have BG6 := hid hb6
                   have HU6 := hid hk6
                   have HT6 := hid (hb6.blk HT5b.out (fun e => by have : w.heap.size = w.heap.size + 1 := e; omega))
                   clear hb6 hk6)
                | ((with_reducible refine wpList_put61 t0 { t0 with boot := 0 } w.heap.size 15 (.int .i64 0) [.int .i64 0] ?_ ?_ ((S3.out.blk HT0.out (fun h => h)).alloc _) ?_ ?_ ?_ ?_ ?_ ?_)
                   exact rfl
                   exact rfl
                   exact rfl
                   kernel_rfl
                   exact (by decide : (15 : Nat) + 1 ≤ 26)
                   exact one_of rfl
                   exact rfl
                   intro W5 hb5 hk5
                   have BG5 := hid hb5
                   have HT5b := hid hk5
                   have HU5 := hid (hb5.blk ((S3.out.blk HU0.out (fun h => h)).alloc _) (fun e => by have : w.heap.size + 1 = w.heap.size := e; omega))
                   clear hb5 hk5)
                | fail)
              have hs3 : w.heap.size + 2 ≤ W3.heap.size := (S3.out.blk HU0.out (fun h => h)).lt
              have OW0 : Hid (OwnU (W3.alloc (.cells #[] 24)) (w.heap.size + 2) (.slice (some ⟨W3.heap.size, 0, none⟩) 0 0) []) := World.ownsRow_made (base := w.heap.size + 2) (e := 24) (size := 1) W3 #[] 0 hs3 (by simp [maxLen]) rfl
              have BGG := hid ((BG5.out.into (D' := fun k => k = w.heap.size ∨ k = w.heap.size + 1) fun k e => .inl e).trans (BG6.out.into (D' := fun k => k = w.heap.size ∨ k = w.heap.size + 1) fun k e => .inr e))
              have OW3 : Hid (OwnU W6 (w.heap.size + 2) (.slice (some ⟨W3.heap.size, 0, none⟩) 0 0) []) := own_but OW0.out BGG.out (fun k e h => by have e' : W3.heap.size = k := Option.some.inj e; omega)
              have BW3 : Hid (Below w.heap.size w W6) := BGG.out.done (HB3.out.alloc HB3.out.size _) (fun k e => by omega) (HB3.out.alloc HB3.out.size _).size
              clear OW0 BGG BG5 BG6 HU5 HT5b f3 f4
              go_loopw [7, 8, 57] (fun vo vb vi wr => ∃ (k : Nat) (B : Int) (T U : Th) (l : List Int), k ≤ n2 ∧ vi = .int .i64 k ∧ vb = .int .i64 B ∧ Hid (1 ≤ B ∧ B ≤ 255) ∧ Hid (Below w.heap.size w wr) ∧ Hid (Blk wr w.heap.size 61 (thC T)) ∧ Hid (Blk wr (w.heap.size + 1) 61 (thC U)) ∧ Hid (OwnU wr (w.heap.size + 2) vo l) ∧ l.length ≤ k ∧ Hid (Apt t0 T B) ∧ Hid (Apt t1 U B) ∧ Hid (∀ s ∈ l, MadeBy t0.id T.boot T.minted s ∨ MadeBy t1.id U.boot U.minted s)) (fun _ _ vi _ => n2 - (intOf vi).toNat)
              case atStart => exact ⟨0, 1, _, _, [], Nat.zero_le _, rfl, rfl, ⟨by decide, by decide⟩, BW3, HT6, HU6, OW3, Nat.zero_le _, A0, A1, fun s hs => nomatch hs⟩
              case round =>
                obtain ⟨k, B, T, U, l, hk, rfl, rfl, HBB, BW, GT, GU, OW, hlk, A0r, A1r, HS⟩ := hrel
                have hB1 := HBB.out.1
                have hB2 := HBB.out.2
                by_cases hlt : k < n2
                · have hltz : (k : Int) < (n2 : Int) := by omega
                  obtain ⟨bb, off, x, hA, hbB, hx, hxr, c0⟩ := (HIN.out.below BW.out).one hlt
                  subst hA
                  clear hx
                  have HLT := hid (World.ownsRow.lt OW.out)
                  have hgu : w.heap.size + 1 < wr.heap.size := GU.out.lt
                  by_cases hx0 : x < 0
                  · go_wp2_with fail
                    go_roundw
                    case measure => simp [intOf] <;> omega
                    case rel => exact ⟨k + 1, B, T, U, l, by omega, by go_num, rfl, HBB, BW, GT, GU, OW, by omega, A0r, A1r, HS⟩
                  · by_cases hx1 : 255 - B < x
                    · go_wp2_with fail
                      go_roundw
                      case measure => simp [intOf] <;> omega
                      case rel => exact ⟨k + 1, B, T, U, l, by omega, by go_num, rfl, HBB, BW, GT, GU, OW, by omega, A0r, A1r, HS⟩
                    · have hxa : 0 ≤ x := by omega
                      have hxb : B + x ≤ 255 := by omega
                      have HBX : Hid (1 ≤ B + x ∧ B + x ≤ 255) := ⟨by omega, by omega⟩
                      by_cases hp : k % 2 = 1
                      · have hpz : Int.tmod (k : Int) 2 = 1 := by rw [show Int.tmod (k : Int) 2 = ((k % 2 : Nat) : Int) from rfl]; omega
                        have HSS := hid (A1r.out)
                        have HNB : Hid (namedB t1.id = true) := H3.out.named
                        by_cases h31 : 31 ≤ mintN U (B + x)
                        · have HM : Hid (∀ W, Calls Try.prog 80 #[.agg (thC (plainT U)), .int .i64 (B + x)] W fun e w' => ∃ o1 o2 o3 o4 : Sl, e = .returned (.tuple #[.agg (thC ((plainT U).slices o1 o2 o3 o4)), .int .u64 0, .int .i64 182]) ∧ Below W.heap.size W w') := fun W => by
                            have := mint80s W (plainT U) emptyL (B + x) _ (plainT_at A1r.out W).s (plainT_at A1r.out W) (plainT_minty W A1r.out HNB.out (by omega) (by omega))
                            rcases plain_mint A1r.out HNB.out (show 0 ≤ B + x by omega) (show B + x ≤ 255 by omega) with ⟨_, e⟩ | ⟨e, _⟩
                            · rw [e] at this
                              exact this.mono fun e w' ⟨a, b, c, d, h1, h2, h3⟩ => ⟨a, b, c, d, h1, h3⟩
                            · omega
                          clear h31
                          go_wp2_with (first
                            | ((with_reducible refine wpList_load61 T w.heap.size ?_ GT.out ?_); exact rfl)
                            | ((with_reducible refine wpList_new61 T ?_ ?_ ?_)
                               exact rfl
                               exact rfl
                               have U6 := hid ((But.refl nil_ wr).alloc (.cells (thC T) 61))
                               have BW6 := hid (BW.out.alloc BW.out.size (.cells (thC T) 61))
                               have G9 : Hid (Blk (wr.alloc (.cells (thC T) 61)) wr.heap.size 61 (thC T)) := Blk.new wr 61 _
                               have GT6 := hid (U6.out.blk GT.out (fun h => h))
                               have GU6 := hid (U6.out.blk GU.out (fun h => h))
                               have OW6 := hid (own_but OW.out U6.out (fun _ _ h => h))
                               have hq6 : wr.heap.size < (wr.alloc (.cells (thC T) 61)).heap.size := by simp
                               clear c0
                               generalize wr.alloc (.cells (thC T) 61) = W6 at *
                               generalize wr.heap.size = g9 at *)
                            | ((with_reducible refine wpList_load61 U (w.heap.size + 1) ?_ GU6.out ?_); exact rfl)
                            | ((with_reducible refine wpList_store61 U T g9 ?_ ?_ G9.out ?_)
                               exact rfl
                               exact rfl
                               intro W7 hb7 hk7
                               have U7 := hid hb7
                               have G9b := hid hk7
                               clear hb7 hk7)
                            | ((with_reducible refine wpList_put61 U { U with d1 := 2, l1 := ⟨none, 0, 0⟩ } g9 2 (.agg #[.int .i64 2, .slice none 0 0]) [.int .i64 2, .slice none 0 0] ?_ ?_ G9b.out ?_ ?_ ?_ ?_ ?_ ?_)
                               exact rfl
                               exact rfl
                               exact rfl
                               kernel_rfl
                               exact (by decide : (2 : Nat) + 2 ≤ 26)
                               exact one_of rfl
                               exact rfl
                               intro W8 hb8 hk8
                               have U8 := hid hb8
                               have G9c := hid hk8
                               clear hb8 hk8)
                            | ((with_reducible refine wpList_put61 { U with d1 := 2, l1 := ⟨none, 0, 0⟩ } (plainT U) g9 4 (.agg #[.int .i64 2, .slice none 0 0]) [.int .i64 2, .slice none 0 0] ?_ ?_ G9c.out ?_ ?_ ?_ ?_ ?_ ?_)
                               exact rfl
                               exact rfl
                               exact rfl
                               kernel_rfl
                               exact (by decide : (4 : Nat) + 2 ≤ 26)
                               exact one_of rfl
                               exact rfl
                               intro W9 hb9 hk9
                               have G9d := hid hk9
                               have U9 := hid (U7.out.trans (U8.out.trans hb9))
                               have GT9 := hid (U9.out.blk GT6.out (fun e => by have : w.heap.size = g9 := e; omega))
                               have GU9 := hid (U9.out.blk GU6.out (fun e => by have : w.heap.size + 1 = g9 := e; omega))
                               have OW9 := hid (own_but OW6.out U9.out (fun k e h => by have : k = g9 := h; have := (HLT.out k e).2; omega))
                               have BW9 := hid (U9.out.done BW6.out (fun k e => by have : k = g9 := e; omega) BW6.out.size)
                               clear hb9 hk9)
                            | ((with_reducible refine wpList_load61 (plainT U) g9 ?_ G9d.out ?_); exact rfl)
                            | (go_at_call 80
                               with_reducible refine (HM.out W9).mono ?_
                               rintro e W10 ⟨o1, o2, o3, o4, rfl, hb10⟩
                               have U10 := hid ((But.refl nil_ W9).below hb10)
                               have BW10 := hid (BW9.out.trans (hb10.mono BW9.out.size))
                               clear hb10)
                            | ((with_reducible refine wpList_new61 ((plainT U).slices o1 o2 o3 o4) ?_ ?_ ?_)
                               exact rfl
                               exact rfl
                               have U11 := hid (U10.out.alloc (.cells (thC ((plainT U).slices o1 o2 o3 o4)) 61))
                               have BW11 := hid (BW10.out.alloc BW10.out.size (.cells (thC ((plainT U).slices o1 o2 o3 o4)) 61))
                               generalize W10.alloc (.cells (thC ((plainT U).slices o1 o2 o3 o4)) 61) = W11 at *
                               have GT11 := hid (U11.out.blk GT9.out (fun h => h))
                               have GU11 := hid (U11.out.blk GU9.out (fun h => h))
                               have OW11 := hid (own_but OW9.out U11.out (fun _ _ h => h)))
                            | fail)
                          go_roundw
                          case measure => simp [intOf] <;> omega
                          case rel => exact ⟨k + 1, B + x, T, U, l, by omega, by go_num, rfl, HBX, BW11, GT11, GU11, OW11, by omega, hid (A0r.out.mono (by omega)), hid (A1r.out.mono (by omega)), HS⟩
                        · obtain ⟨M, hM⟩ : ∃ M, M = mintN U (B + x) + 1 := ⟨_, rfl⟩
                          obtain ⟨N, hN⟩ : ∃ N : Th, N = { plainT U with boot := B + x, minted := M } := ⟨_, rfl⟩
                          obtain ⟨C, hC⟩ : ∃ C, C = catOf t1 U (B + x) := ⟨_, rfl⟩
                          have hN0 : 0 ≤ mintN U (B + x) := by have := A1r.out.m0; unfold mintN; split <;> omega
                          have HR31 : Hid (0 ≤ mintN U (B + x) ∧ mintN U (B + x) < 31) := ⟨hN0, by omega⟩
                          have HPL : Hid (∀ W (a b c d : Sl) (p : Tl), ThAt W (N.slices a b c d) p → p.links = [] → p.data = [] → Apt t1 (N.slices a b c d) (B + x)) := fun W a b c d p h e1 e2 => by
                            rw [hN, hM] at h ⊢
                            exact apt_next A1r.out (by omega) HR31.out h e1 e2
                          have HM : Hid (∀ W, Calls Try.prog 80 #[.agg (thC (plainT U)), .int .i64 (B + x)] W fun e w' => ∃ o1 o2 o3 o4 : Sl, e = .returned (.tuple #[.agg (thC (N.slices o1 o2 o3 o4)), .int .u64 C, .int .i64 0]) ∧ Apt t1 (N.slices o1 o2 o3 o4) (B + x) ∧ Below W.heap.size W w') := fun W => by
                            have := mint80s W (plainT U) emptyL (B + x) _ (plainT_at A1r.out W).s (plainT_at A1r.out W) (plainT_minty W A1r.out HNB.out (by omega) (by omega))
                            rcases plain_mint A1r.out HNB.out (show 0 ≤ B + x by omega) (show B + x ≤ 255 by omega) with ⟨e, _⟩ | ⟨_, e⟩
                            · omega
                            · rw [e, ← hM, ← hN, ← hC] at this
                              exact this.mono fun e w' ⟨a, b, c, d, h1, h2, h3⟩ => ⟨a, b, c, d, h1, HPL.out w' a b c d _ h2.at_ rfl rfl, h3⟩
                          have hnm : 1 ≤ t1.id ∧ t1.id ≤ 281474976710655 := by have := HNB.out; unfold namedB at this; exact of_decide_eq_true this
                          have HMI : Hid (∀ W, Calls Try.prog 83 #[.int .u64 C] W fun e w' => e = .returned (.tuple #[.int .u64 t1.id, .int .i64 (B + x), .int .i64 M]) ∧ W = w') := fun W => minter83 W t1.id (B + x) M C (by omega) (by omega) (by omega) (by omega) (by omega) (by have := HR31.out.2; omega) (by rw [hC, hM]; rfl)
                          have HID : Hid ((plainT U).id = t1.id) := A1r.out.id
                          have HMN : Hid (M = N.minted) := by show _ = _; rw [hN]
                          have hc2 : C ≤ 2305843009213693951 := by rw [hC]; unfold catOf; have := HR31.out.2; omega
                          have HNEW : Hid (∀ s ∈ l, s ≠ C) := fun s hs => by
                            rw [hC]
                            rcases HS.out s hs with h | h
                            · exact new_other (fun e => HNE.out e) (by omega) (by omega) HR31.out h
                            · exact new_own A1r.out (by omega) (by omega) (by omega) HR31.out h
                          have HS2 : Hid (∀ (a b c d : Sl) s, s ∈ l ++ [C] → MadeBy t0.id T.boot T.minted s ∨ MadeBy t1.id (N.slices a b c d).boot (N.slices a b c d).minted s) := fun a b c d s hs => by
                            have e1 : (N.slices a b c d).boot = B + x := by rw [hN]; rfl
                            have e2 : (N.slices a b c d).minted = mintN U (B + x) + 1 := by rw [hN, hM]; rfl
                            rw [e1, e2]
                            rcases List.mem_append.1 hs with h | h
                            · rcases HS.out s h with h | h
                              · exact .inl h
                              · exact .inr (made_later A1r.out (by omega) h)
                            · rw [List.mem_singleton] at h
                              rw [h, hC]
                              exact .inr (made_now A1r.out (by omega) (by omega) HR31.out)
                          clear hN hM hC hN0 h31 HPL hnm
                          obtain ⟨Ao, m, co, rfl, hN⟩ := NumsAt.of_own OW.out
                          clear hN
                          go_wp2_with (first
                            | ((with_reducible refine wpList_load61 T w.heap.size ?_ GT.out ?_); exact rfl)
                            | ((with_reducible refine wpList_new61 T ?_ ?_ ?_)
                               exact rfl
                               exact rfl
                               have U6 := hid ((But.refl nil_ wr).alloc (.cells (thC T) 61))
                               have BW6 := hid (BW.out.alloc BW.out.size (.cells (thC T) 61))
                               have G9 : Hid (Blk (wr.alloc (.cells (thC T) 61)) wr.heap.size 61 (thC T)) := Blk.new wr 61 _
                               have GT6 := hid (U6.out.blk GT.out (fun h => h))
                               have GU6 := hid (U6.out.blk GU.out (fun h => h))
                               have OW6 := hid (own_but OW.out U6.out (fun _ _ h => h))
                               have hq6 : wr.heap.size < (wr.alloc (.cells (thC T) 61)).heap.size := by simp
                               clear c0
                               generalize wr.alloc (.cells (thC T) 61) = W6 at *
                               generalize wr.heap.size = g9 at *)
                            | ((with_reducible refine wpList_load61 U (w.heap.size + 1) ?_ GU6.out ?_); exact rfl)
                            | ((with_reducible refine wpList_store61 U T g9 ?_ ?_ G9.out ?_)
                               exact rfl
                               exact rfl
                               intro W7 hb7 hk7
                               have U7 := hid hb7
                               have G9b := hid hk7
                               clear hb7 hk7)
                            | ((with_reducible refine wpList_put61 U { U with d1 := 2, l1 := ⟨none, 0, 0⟩ } g9 2 (.agg #[.int .i64 2, .slice none 0 0]) [.int .i64 2, .slice none 0 0] ?_ ?_ G9b.out ?_ ?_ ?_ ?_ ?_ ?_)
                               exact rfl
                               exact rfl
                               exact rfl
                               kernel_rfl
                               exact (by decide : (2 : Nat) + 2 ≤ 26)
                               exact one_of rfl
                               exact rfl
                               intro W8 hb8 hk8
                               have U8 := hid hb8
                               have G9c := hid hk8
                               clear hb8 hk8)
                            | ((with_reducible refine wpList_put61 { U with d1 := 2, l1 := ⟨none, 0, 0⟩ } (plainT U) g9 4 (.agg #[.int .i64 2, .slice none 0 0]) [.int .i64 2, .slice none 0 0] ?_ ?_ G9c.out ?_ ?_ ?_ ?_ ?_ ?_)
                               exact rfl
                               exact rfl
                               exact rfl
                               kernel_rfl
                               exact (by decide : (4 : Nat) + 2 ≤ 26)
                               exact one_of rfl
                               exact rfl
                               intro W9 hb9 hk9
                               have G9d := hid hk9
                               have U9 := hid (U7.out.trans (U8.out.trans hb9))
                               have GT9 := hid (U9.out.blk GT6.out (fun e => by have : w.heap.size = g9 := e; omega))
                               have GU9 := hid (U9.out.blk GU6.out (fun e => by have : w.heap.size + 1 = g9 := e; omega))
                               have OW9 := hid (own_but OW6.out U9.out (fun k e h => by have : k = g9 := h; have := (HLT.out k e).2; omega))
                               have BW9 := hid (U9.out.done BW6.out (fun k e => by have : k = g9 := e; omega) BW6.out.size)
                               clear hb9 hk9)
                            | ((with_reducible refine wpList_load61 (plainT U) g9 ?_ G9d.out ?_); exact rfl)
                            | (go_at_call 80
                               with_reducible refine (HM.out W9).mono ?_
                               rintro e W10 ⟨o1, o2, o3, o4, rfl, ha10, hb10⟩
                               have U10 := hid ((But.refl nil_ W9).below hb10)
                               have BW10 := hid (BW9.out.trans (hb10.mono BW9.out.size))
                               have A10 := hid ha10
                               have hq10 := U10.out.size
                               have hq9 := U9.out.size
                               clear ha10 hb10)
                            | ((with_reducible refine wpList_new61 (N.slices o1 o2 o3 o4) ?_ ?_ ?_)
                               exact rfl
                               exact rfl
                               have U11 := hid (U10.out.alloc (.cells (thC (N.slices o1 o2 o3 o4)) 61))
                               have BW11 := hid (BW10.out.alloc BW10.out.size (.cells (thC (N.slices o1 o2 o3 o4)) 61))
                               have G12 : Hid (Blk (W10.alloc (.cells (thC (N.slices o1 o2 o3 o4)) 61)) W10.heap.size 61 (thC (N.slices o1 o2 o3 o4))) := Blk.new W10 61 _
                               generalize W10.alloc (.cells (thC (N.slices o1 o2 o3 o4)) 61) = W11 at *
                               generalize W10.heap.size = g12 at *
                               have GT11 := hid (U11.out.blk GT9.out (fun h => h))
                               have GU11 := hid (U11.out.blk GU9.out (fun h => h))
                               have OW11 := hid (own_but OW9.out U11.out (fun _ _ h => h))
                               have f5 : W11.cell? ⟨g9, 0, none⟩ = some (.int .u64 t1.id) := by rw [← HID.out]; exact (Blk.front (U11.out.blk G9d.out (fun h => h))).1
                               have f6 : W11.cell? ⟨g12, 14, none⟩ = some (.int .i64 M) := (Blk.cell G12.out 14).trans (by rw [HMN.out]; rfl))
                            | (go_at_call 83
                               with_reducible refine (HMI.out W11).mono ?_
                               rintro e W12 ⟨rfl, rfl⟩)
                            | fail)
                          have hs2 : w.heap.size + 2 ≤ W11.heap.size := GU11.out.lt
                          have hg12 : g9 < g12 := by omega
                          obtain ⟨A', n', c', e, hN⟩ := NumsAt.of_own OW11.out
                          cases e
                          have HN := hid hN
                          have hml := hN.len
                          clear hN
                          go_loopw [122] (fun vj wj => ∃ j : Nat, j ≤ m ∧ vj = .int .i64 j ∧ Hid (But nil_ W11 wj)) (fun vj _ => m - (intOf vj).toNat)
                          case atStart => exact ⟨0, Nat.zero_le _, rfl, But.refl nil_ W11⟩
                          case round =>
                            obtain ⟨j, hj, rfl, WJ⟩ := hrel
                            by_cases hjm : j < m
                            · have hjz : (j : Int) < (m : Int) := by omega
                              obtain ⟨ad, y, hA2, had, hy, cy⟩ := (HN.out.below (since_below WJ.out (Nat.le_refl _))).at_ hjm
                              subst hA2
                              have hyc : (y == C) = false := by
                                have := HNEW.out y (List.mem_of_getElem? hy)
                                simpa using this
                              have hyn : ¬ y = C := HNEW.out y (List.mem_of_getElem? hy)
                              clear hy
                              go_wp2_with fail
                              go_roundw
                              case measure => simp [intOf] <;> omega
                              case rel => exact ⟨j + 1, by omega, by go_num, WJ⟩
                            · have hjz : ¬ (j : Int) < (m : Int) := by omega
                              have OWj := hid (own_but OW11.out WJ.out (fun _ _ h => h))
                              have GTj := hid (WJ.out.blk GT11.out (fun h => h))
                              have GUj := hid (WJ.out.blk GU11.out (fun h => h))
                              have G12j := hid (WJ.out.blk G12.out (fun h => h))
                              have BWj := hid (BW11.out.trans (since_below WJ.out BW11.out.size))
                              have hsj := WJ.out.size
                              go_wp2_with (first
                                | (at_builtin
                                   refine wpList_append_any _ rfl (.tmp 130) (.tmp 132) _ rfl (w.heap.size + 2) 24 i0 _ 1 8 Try.underlying88 hi0 hz0 hz1 hz2 rfl (by omega) _ _ _ rfl (World.ownsRow.alloc OWj.out _) _ _ 1 1 [.int .u64 C] rfl (num_new _ _) (by simp [Value.oneCell']) (by (try simp only [List.length_append, List.length_cons, List.length_nil]); unfold maxLen; omega) (by (try simp only [List.length_append, List.length_cons, List.length_nil]); omega) (Nat.le_trans (Nat.le_trans hs2 hsj) (by simp)) ?_
                                   intro v1 w1 hown hg hat
                                   obtain ⟨p1, p2⟩ := push_but hown hg
                                   have OWk := hid p1
                                   have GTk := hid (p2.blk GTj.out (fun e => by have := (HLT.out _ e).1; omega))
                                   have GUk := hid (p2.blk GUj.out (fun e => by have := (HLT.out _ e).1; omega))
                                   have G12k := hid (p2.blk G12j.out (fun e => by have := (HLT.out _ e).2; omega))
                                   have BWk := hid (p2.done BWj.out (fun k e => by have := (HLT.out k e).1; omega) BWj.out.size)
                                   clear hown hg hat p1 p2)
                                | ((with_reducible refine wpList_load61 (N.slices o1 o2 o3 o4) g12 ?_ G12k.out ?_); exact rfl)
                                | ((with_reducible refine wpList_store61 (N.slices o1 o2 o3 o4) U (w.heap.size + 1) ?_ ?_ GUk.out ?_)
                                   exact rfl
                                   exact rfl
                                   intro W14 hb14 hk14
                                   have GUz := hid hk14
                                   have GTz := hid (hb14.blk GTk.out (fun e => by have : w.heap.size = (w.heap.size + 1) := e; omega))
                                   have OWz := hid (own_but OWk.out hb14 (fun k e h => by have : k = (w.heap.size + 1) := h; have := (World.ownsRow.lt OWk.out k e).1; omega))
                                   have BWz := hid (hb14.done BWk.out (fun k e => by have : k = (w.heap.size + 1) := e; omega) BWk.out.size)
                                   clear hb14 hk14)
                                | fail)
                              go_roundw
                              case measure => simp [intOf] <;> omega
                              case rel => exact ⟨k + 1, B + x, T, N.slices o1 o2 o3 o4, l ++ [C], by omega, by go_num, rfl, HBX, BWz, GTz, GUz, OWz, by (simp only [List.length_append, List.length_cons, List.length_nil]; omega), hid (A0r.out.mono (by omega)), A10, fun s hs => HS2.out o1 o2 o3 o4 s hs⟩
                      · have hpz : Int.tmod (k : Int) 2 = 0 := by rw [show Int.tmod (k : Int) 2 = ((k % 2 : Nat) : Int) from rfl]; omega
                        have HSS := hid (A0r.out)
                        have HNB : Hid (namedB t0.id = true) := H2.out.named
                        by_cases h31 : 31 ≤ mintN T (B + x)
                        · have HM : Hid (∀ W, Calls Try.prog 80 #[.agg (thC (plainT T)), .int .i64 (B + x)] W fun e w' => ∃ o1 o2 o3 o4 : Sl, e = .returned (.tuple #[.agg (thC ((plainT T).slices o1 o2 o3 o4)), .int .u64 0, .int .i64 182]) ∧ Below W.heap.size W w') := fun W => by
                            have := mint80s W (plainT T) emptyL (B + x) _ (plainT_at A0r.out W).s (plainT_at A0r.out W) (plainT_minty W A0r.out HNB.out (by omega) (by omega))
                            rcases plain_mint A0r.out HNB.out (show 0 ≤ B + x by omega) (show B + x ≤ 255 by omega) with ⟨_, e⟩ | ⟨e, _⟩
                            · rw [e] at this
                              exact this.mono fun e w' ⟨a, b, c, d, h1, h2, h3⟩ => ⟨a, b, c, d, h1, h3⟩
                            · omega
                          clear h31
                          go_wp2_with (first
                            | ((with_reducible refine wpList_load61 T w.heap.size ?_ GT.out ?_); exact rfl)
                            | ((with_reducible refine wpList_new61 T ?_ ?_ ?_)
                               exact rfl
                               exact rfl
                               have U6 := hid ((But.refl nil_ wr).alloc (.cells (thC T) 61))
                               have BW6 := hid (BW.out.alloc BW.out.size (.cells (thC T) 61))
                               have G9 : Hid (Blk (wr.alloc (.cells (thC T) 61)) wr.heap.size 61 (thC T)) := Blk.new wr 61 _
                               have GT6 := hid (U6.out.blk GT.out (fun h => h))
                               have GU6 := hid (U6.out.blk GU.out (fun h => h))
                               have OW6 := hid (own_but OW.out U6.out (fun _ _ h => h))
                               have hq6 : wr.heap.size < (wr.alloc (.cells (thC T) 61)).heap.size := by simp
                               clear c0
                               generalize wr.alloc (.cells (thC T) 61) = W6 at *
                               generalize wr.heap.size = g9 at *)
                            | ((with_reducible refine wpList_put61 T { T with d1 := 2, l1 := ⟨none, 0, 0⟩ } g9 2 (.agg #[.int .i64 2, .slice none 0 0]) [.int .i64 2, .slice none 0 0] ?_ ?_ G9.out ?_ ?_ ?_ ?_ ?_ ?_)
                               exact rfl
                               exact rfl
                               exact rfl
                               kernel_rfl
                               exact (by decide : (2 : Nat) + 2 ≤ 26)
                               exact one_of rfl
                               exact rfl
                               intro W8 hb8 hk8
                               have U8 := hid hb8
                               have G9c := hid hk8
                               clear hb8 hk8)
                            | ((with_reducible refine wpList_put61 { T with d1 := 2, l1 := ⟨none, 0, 0⟩ } (plainT T) g9 4 (.agg #[.int .i64 2, .slice none 0 0]) [.int .i64 2, .slice none 0 0] ?_ ?_ G9c.out ?_ ?_ ?_ ?_ ?_ ?_)
                               exact rfl
                               exact rfl
                               exact rfl
                               kernel_rfl
                               exact (by decide : (4 : Nat) + 2 ≤ 26)
                               exact one_of rfl
                               exact rfl
                               intro W9 hb9 hk9
                               have G9d := hid hk9
                               have U9 := hid (U8.out.trans hb9)
                               have GT9 := hid (U9.out.blk GT6.out (fun e => by have : w.heap.size = g9 := e; omega))
                               have GU9 := hid (U9.out.blk GU6.out (fun e => by have : w.heap.size + 1 = g9 := e; omega))
                               have OW9 := hid (own_but OW6.out U9.out (fun k e h => by have : k = g9 := h; have := (HLT.out k e).2; omega))
                               have BW9 := hid (U9.out.done BW6.out (fun k e => by have : k = g9 := e; omega) BW6.out.size)
                               clear hb9 hk9)
                            | ((with_reducible refine wpList_load61 (plainT T) g9 ?_ G9d.out ?_); exact rfl)
                            | (go_at_call 80
                               with_reducible refine (HM.out W9).mono ?_
                               rintro e W10 ⟨o1, o2, o3, o4, rfl, hb10⟩
                               have U10 := hid ((But.refl nil_ W9).below hb10)
                               have BW10 := hid (BW9.out.trans (hb10.mono BW9.out.size))
                               clear hb10)
                            | ((with_reducible refine wpList_new61 ((plainT T).slices o1 o2 o3 o4) ?_ ?_ ?_)
                               exact rfl
                               exact rfl
                               have U11 := hid (U10.out.alloc (.cells (thC ((plainT T).slices o1 o2 o3 o4)) 61))
                               have BW11 := hid (BW10.out.alloc BW10.out.size (.cells (thC ((plainT T).slices o1 o2 o3 o4)) 61))
                               generalize W10.alloc (.cells (thC ((plainT T).slices o1 o2 o3 o4)) 61) = W11 at *
                               have GT11 := hid (U11.out.blk GT9.out (fun h => h))
                               have GU11 := hid (U11.out.blk GU9.out (fun h => h))
                               have OW11 := hid (own_but OW9.out U11.out (fun _ _ h => h)))
                            | fail)
                          go_roundw
                          case measure => simp [intOf] <;> omega
                          case rel => exact ⟨k + 1, B + x, T, U, l, by omega, by go_num, rfl, HBX, BW11, GT11, GU11, OW11, by omega, hid (A0r.out.mono (by omega)), hid (A1r.out.mono (by omega)), HS⟩
                        · obtain ⟨M, hM⟩ : ∃ M, M = mintN T (B + x) + 1 := ⟨_, rfl⟩
                          obtain ⟨N, hN⟩ : ∃ N : Th, N = { plainT T with boot := B + x, minted := M } := ⟨_, rfl⟩
                          obtain ⟨C, hC⟩ : ∃ C, C = catOf t0 T (B + x) := ⟨_, rfl⟩
                          have hN0 : 0 ≤ mintN T (B + x) := by have := A0r.out.m0; unfold mintN; split <;> omega
                          have HR31 : Hid (0 ≤ mintN T (B + x) ∧ mintN T (B + x) < 31) := ⟨hN0, by omega⟩
                          have HPL : Hid (∀ W (a b c d : Sl) (p : Tl), ThAt W (N.slices a b c d) p → p.links = [] → p.data = [] → Apt t0 (N.slices a b c d) (B + x)) := fun W a b c d p h e1 e2 => by
                            rw [hN, hM] at h ⊢
                            exact apt_next A0r.out (by omega) HR31.out h e1 e2
                          have HM : Hid (∀ W, Calls Try.prog 80 #[.agg (thC (plainT T)), .int .i64 (B + x)] W fun e w' => ∃ o1 o2 o3 o4 : Sl, e = .returned (.tuple #[.agg (thC (N.slices o1 o2 o3 o4)), .int .u64 C, .int .i64 0]) ∧ Apt t0 (N.slices o1 o2 o3 o4) (B + x) ∧ Below W.heap.size W w') := fun W => by
                            have := mint80s W (plainT T) emptyL (B + x) _ (plainT_at A0r.out W).s (plainT_at A0r.out W) (plainT_minty W A0r.out HNB.out (by omega) (by omega))
                            rcases plain_mint A0r.out HNB.out (show 0 ≤ B + x by omega) (show B + x ≤ 255 by omega) with ⟨e, _⟩ | ⟨_, e⟩
                            · omega
                            · rw [e, ← hM, ← hN, ← hC] at this
                              exact this.mono fun e w' ⟨a, b, c, d, h1, h2, h3⟩ => ⟨a, b, c, d, h1, HPL.out w' a b c d _ h2.at_ rfl rfl, h3⟩
                          have hnm : 1 ≤ t0.id ∧ t0.id ≤ 281474976710655 := by have := HNB.out; unfold namedB at this; exact of_decide_eq_true this
                          have HMI : Hid (∀ W, Calls Try.prog 83 #[.int .u64 C] W fun e w' => e = .returned (.tuple #[.int .u64 t0.id, .int .i64 (B + x), .int .i64 M]) ∧ W = w') := fun W => minter83 W t0.id (B + x) M C (by omega) (by omega) (by omega) (by omega) (by omega) (by have := HR31.out.2; omega) (by rw [hC, hM]; rfl)
                          have HID : Hid ((plainT T).id = t0.id) := A0r.out.id
                          have HMN : Hid (M = N.minted) := by show _ = _; rw [hN]
                          have hc2 : C ≤ 2305843009213693951 := by rw [hC]; unfold catOf; have := HR31.out.2; omega
                          have HNEW : Hid (∀ s ∈ l, s ≠ C) := fun s hs => by
                            rw [hC]
                            rcases HS.out s hs with h | h
                            · exact new_own A0r.out (by omega) (by omega) (by omega) HR31.out h
                            · exact new_other (fun e => HNE.out e.symm) (by omega) (by omega) HR31.out h
                          have HS2 : Hid (∀ (a b c d : Sl) s, s ∈ l ++ [C] → MadeBy t0.id (N.slices a b c d).boot (N.slices a b c d).minted s ∨ MadeBy t1.id U.boot U.minted s) := fun a b c d s hs => by
                            have e1 : (N.slices a b c d).boot = B + x := by rw [hN]; rfl
                            have e2 : (N.slices a b c d).minted = mintN T (B + x) + 1 := by rw [hN, hM]; rfl
                            rw [e1, e2]
                            rcases List.mem_append.1 hs with h | h
                            · rcases HS.out s h with h | h
                              · exact .inl (made_later A0r.out (by omega) h)
                              · exact .inr h
                            · rw [List.mem_singleton] at h
                              rw [h, hC]
                              exact .inl (made_now A0r.out (by omega) (by omega) HR31.out)
                          clear hN hM hC hN0 h31 HPL hnm
                          obtain ⟨Ao, m, co, rfl, hN⟩ := NumsAt.of_own OW.out
                          clear hN
                          go_wp2_with (first
                            | ((with_reducible refine wpList_load61 T w.heap.size ?_ GT.out ?_); exact rfl)
                            | ((with_reducible refine wpList_new61 T ?_ ?_ ?_)
                               exact rfl
                               exact rfl
                               have U6 := hid ((But.refl nil_ wr).alloc (.cells (thC T) 61))
                               have BW6 := hid (BW.out.alloc BW.out.size (.cells (thC T) 61))
                               have G9 : Hid (Blk (wr.alloc (.cells (thC T) 61)) wr.heap.size 61 (thC T)) := Blk.new wr 61 _
                               have GT6 := hid (U6.out.blk GT.out (fun h => h))
                               have GU6 := hid (U6.out.blk GU.out (fun h => h))
                               have OW6 := hid (own_but OW.out U6.out (fun _ _ h => h))
                               have hq6 : wr.heap.size < (wr.alloc (.cells (thC T) 61)).heap.size := by simp
                               clear c0
                               generalize wr.alloc (.cells (thC T) 61) = W6 at *
                               generalize wr.heap.size = g9 at *)
                            | ((with_reducible refine wpList_put61 T { T with d1 := 2, l1 := ⟨none, 0, 0⟩ } g9 2 (.agg #[.int .i64 2, .slice none 0 0]) [.int .i64 2, .slice none 0 0] ?_ ?_ G9.out ?_ ?_ ?_ ?_ ?_ ?_)
                               exact rfl
                               exact rfl
                               exact rfl
                               kernel_rfl
                               exact (by decide : (2 : Nat) + 2 ≤ 26)
                               exact one_of rfl
                               exact rfl
                               intro W8 hb8 hk8
                               have U8 := hid hb8
                               have G9c := hid hk8
                               clear hb8 hk8)
                            | ((with_reducible refine wpList_put61 { T with d1 := 2, l1 := ⟨none, 0, 0⟩ } (plainT T) g9 4 (.agg #[.int .i64 2, .slice none 0 0]) [.int .i64 2, .slice none 0 0] ?_ ?_ G9c.out ?_ ?_ ?_ ?_ ?_ ?_)
                               exact rfl
                               exact rfl
                               exact rfl
                               kernel_rfl
                               exact (by decide : (4 : Nat) + 2 ≤ 26)
                               exact one_of rfl
                               exact rfl
                               intro W9 hb9 hk9
                               have G9d := hid hk9
                               have U9 := hid (U8.out.trans hb9)
                               have GT9 := hid (U9.out.blk GT6.out (fun e => by have : w.heap.size = g9 := e; omega))
                               have GU9 := hid (U9.out.blk GU6.out (fun e => by have : w.heap.size + 1 = g9 := e; omega))
                               have OW9 := hid (own_but OW6.out U9.out (fun k e h => by have : k = g9 := h; have := (HLT.out k e).2; omega))
                               have BW9 := hid (U9.out.done BW6.out (fun k e => by have : k = g9 := e; omega) BW6.out.size)
                               clear hb9 hk9)
                            | ((with_reducible refine wpList_load61 (plainT T) g9 ?_ G9d.out ?_); exact rfl)
                            | (go_at_call 80
                               with_reducible refine (HM.out W9).mono ?_
                               rintro e W10 ⟨o1, o2, o3, o4, rfl, ha10, hb10⟩
                               have U10 := hid ((But.refl nil_ W9).below hb10)
                               have BW10 := hid (BW9.out.trans (hb10.mono BW9.out.size))
                               have A10 := hid ha10
                               have hq10 := U10.out.size
                               have hq9 := U9.out.size
                               clear ha10 hb10)
                            | ((with_reducible refine wpList_new61 (N.slices o1 o2 o3 o4) ?_ ?_ ?_)
                               exact rfl
                               exact rfl
                               have U11 := hid (U10.out.alloc (.cells (thC (N.slices o1 o2 o3 o4)) 61))
                               have BW11 := hid (BW10.out.alloc BW10.out.size (.cells (thC (N.slices o1 o2 o3 o4)) 61))
                               have G12 : Hid (Blk (W10.alloc (.cells (thC (N.slices o1 o2 o3 o4)) 61)) W10.heap.size 61 (thC (N.slices o1 o2 o3 o4))) := Blk.new W10 61 _
                               generalize W10.alloc (.cells (thC (N.slices o1 o2 o3 o4)) 61) = W11 at *
                               generalize W10.heap.size = g12 at *
                               have GT11 := hid (U11.out.blk GT9.out (fun h => h))
                               have GU11 := hid (U11.out.blk GU9.out (fun h => h))
                               have OW11 := hid (own_but OW9.out U11.out (fun _ _ h => h))
                               have f5 : W11.cell? ⟨g9, 0, none⟩ = some (.int .u64 t0.id) := by rw [← HID.out]; exact (Blk.front (U11.out.blk G9d.out (fun h => h))).1
                               have f6 : W11.cell? ⟨g12, 14, none⟩ = some (.int .i64 M) := (Blk.cell G12.out 14).trans (by rw [HMN.out]; rfl))
                            | (go_at_call 83
                               with_reducible refine (HMI.out W11).mono ?_
                               rintro e W12 ⟨rfl, rfl⟩)
                            | fail)
                          have hs2 : w.heap.size + 2 ≤ W11.heap.size := GU11.out.lt
                          have hg12 : g9 < g12 := by omega
                          obtain ⟨A', n', c', e, hN⟩ := NumsAt.of_own OW11.out
                          cases e
                          have HN := hid hN
                          have hml := hN.len
                          clear hN
                          go_loopw [122] (fun vj wj => ∃ j : Nat, j ≤ m ∧ vj = .int .i64 j ∧ Hid (But nil_ W11 wj)) (fun vj _ => m - (intOf vj).toNat)
                          case atStart => exact ⟨0, Nat.zero_le _, rfl, But.refl nil_ W11⟩
                          case round =>
                            obtain ⟨j, hj, rfl, WJ⟩ := hrel
                            by_cases hjm : j < m
                            · have hjz : (j : Int) < (m : Int) := by omega
                              obtain ⟨ad, y, hA2, had, hy, cy⟩ := (HN.out.below (since_below WJ.out (Nat.le_refl _))).at_ hjm
                              subst hA2
                              have hyc : (y == C) = false := by
                                have := HNEW.out y (List.mem_of_getElem? hy)
                                simpa using this
                              have hyn : ¬ y = C := HNEW.out y (List.mem_of_getElem? hy)
                              clear hy
                              go_wp2_with fail
                              go_roundw
                              case measure => simp [intOf] <;> omega
                              case rel => exact ⟨j + 1, by omega, by go_num, WJ⟩
                            · have hjz : ¬ (j : Int) < (m : Int) := by omega
                              have OWj := hid (own_but OW11.out WJ.out (fun _ _ h => h))
                              have GTj := hid (WJ.out.blk GT11.out (fun h => h))
                              have GUj := hid (WJ.out.blk GU11.out (fun h => h))
                              have G12j := hid (WJ.out.blk G12.out (fun h => h))
                              have BWj := hid (BW11.out.trans (since_below WJ.out BW11.out.size))
                              have hsj := WJ.out.size
                              go_wp2_with (first
                                | (at_builtin
                                   refine wpList_append_any _ rfl (.tmp 130) (.tmp 132) _ rfl (w.heap.size + 2) 24 i0 _ 1 8 Try.underlying88 hi0 hz0 hz1 hz2 rfl (by omega) _ _ _ rfl (World.ownsRow.alloc OWj.out _) _ _ 1 1 [.int .u64 C] rfl (num_new _ _) (by simp [Value.oneCell']) (by (try simp only [List.length_append, List.length_cons, List.length_nil]); unfold maxLen; omega) (by (try simp only [List.length_append, List.length_cons, List.length_nil]); omega) (Nat.le_trans (Nat.le_trans hs2 hsj) (by simp)) ?_
                                   intro v1 w1 hown hg hat
                                   obtain ⟨p1, p2⟩ := push_but hown hg
                                   have OWk := hid p1
                                   have GTk := hid (p2.blk GTj.out (fun e => by have := (HLT.out _ e).1; omega))
                                   have GUk := hid (p2.blk GUj.out (fun e => by have := (HLT.out _ e).1; omega))
                                   have G12k := hid (p2.blk G12j.out (fun e => by have := (HLT.out _ e).2; omega))
                                   have BWk := hid (p2.done BWj.out (fun k e => by have := (HLT.out k e).1; omega) BWj.out.size)
                                   clear hown hg hat p1 p2)
                                | ((with_reducible refine wpList_load61 (N.slices o1 o2 o3 o4) g12 ?_ G12k.out ?_); exact rfl)
                                | ((with_reducible refine wpList_store61 (N.slices o1 o2 o3 o4) T w.heap.size ?_ ?_ GTk.out ?_)
                                   exact rfl
                                   exact rfl
                                   intro W14 hb14 hk14
                                   have GTz := hid hk14
                                   have GUz := hid (hb14.blk GUk.out (fun e => by have : (w.heap.size + 1) = w.heap.size := e; omega))
                                   have OWz := hid (own_but OWk.out hb14 (fun k e h => by have : k = w.heap.size := h; have := (World.ownsRow.lt OWk.out k e).1; omega))
                                   have BWz := hid (hb14.done BWk.out (fun k e => by have : k = w.heap.size := e; omega) BWk.out.size)
                                   clear hb14 hk14)
                                | fail)
                              go_roundw
                              case measure => simp [intOf] <;> omega
                              case rel => exact ⟨k + 1, B + x, N.slices o1 o2 o3 o4, U, l ++ [C], by omega, by go_num, rfl, HBX, BWz, GTz, GUz, OWz, by (simp only [List.length_append, List.length_cons, List.length_nil]; omega), A10, hid (A1r.out.mono (by omega)), fun s hs => HS2.out o1 o2 o3 o4 s hs⟩
                · have hltz : ¬ (k : Int) < (n2 : Int) := by omega
                  go_wp2_with fail
                  go_ret
                  exact ⟨rfl, BW.out⟩
    · have hkb : (t1.kind == 2) = false := by simpa using hk1
      have hkn : (t1.kind != 2) = true := by simpa using hk1
      go_enter Try.func25, Try.ntmps25
      go_wp2_with (first
        | (go_at_call 77
           with_reducible refine (alive77 _).mono ?_
           rintro e W1 ⟨rfl, hb1⟩
           have S1 := hid ((But.refl nil_ _).below hb1)
           have HB1 := hid (HB0.out.trans (hb1.mono HB0.out.size))
           have f1 := (HK0.out _ (S1.out.blk HT0.out (fun h => h)))
           have f2 := ((Blk.front (S1.out.blk HU0.out (fun h => h))).2.1)
           clear hb1)
        | fail)
      go_ret
      exact ⟨rfl, HB1.out⟩
  · have hkb : (t0.kind == 2) = false := by simpa using hk
    have hkn : (t0.kind != 2) = true := by simpa using hk
    go_enter Try.func25, Try.ntmps25
    go_wp2_with (first
      | (go_at_call 77
         with_reducible refine (alive77 _).mono ?_
         rintro e W1 ⟨rfl, hb1⟩
         have S1 := hid ((But.refl nil_ _).below hb1)
         have HB1 := hid (HB0.out.trans (hb1.mono HB0.out.size))
         have f1 := ((Blk.front (S1.out.blk HT0.out (fun h => h))).2.1)
         have f2 := trivial
         clear hb1)
      | fail)
    go_ret
    exact ⟨rfl, HB1.out⟩

theorem fits {H : Type} : ∀ ds : List (DataW H), ds.length = Try.f25.params.toList.length → Rows.gateApartSpec.fn H ds = { results := [.lit (.bool true)], args := ds } := by
  intro ds h
  rw [Try.params25] at h
  match ds, h with
  | [e0, e1, e2], _ => rfl

set_option maxRecDepth 100000 in
theorem lifted (os : Os) (started : os.Started) (H : Type) (enc : TypeId × Value → H) :
    ReturnsInHanded {} Try.checked os 25 .any (Rows.gateApartSpec.pre6 enc Try.prog Try.f25 Rows.gateApartRow.domain false) (Rows.gateApartSpec.post enc Try.prog Try.f25 false true false false) := by
  refine returnsInHanded_of_change_sized (C := Try.checked) own started (by kernel_rfl) Try.func25
    (ChangeSpec.witness6 (enc := enc) (C := Try.checked) false ⟨#[], #[.agg #[.int .u64 0, .int .i64 0, .int .i64 0, .slice none 0 0, .int .i64 0, .slice none 0 0, .int .i64 0, .int .i64 0, .slice none 0 0, .slice none 0 0, .int .u64 0, .int .u64 0, .int .u64 0, .int .u64 0, .int .i64 0, .int .i64 0, .bool false, .int .u64 0, .int .u64 0, .int .u64 0, .int .u64 0, .int .u64 0, .int .u64 0, .int .u64 0, .int .u64 0, .int .u64 0], .agg #[.int .u64 0, .int .i64 0, .int .i64 0, .slice none 0 0, .int .i64 0, .slice none 0 0, .int .i64 0, .int .i64 0, .slice none 0 0, .slice none 0 0, .int .u64 0, .int .u64 0, .int .u64 0, .int .u64 0, .int .i64 0, .int .i64 0, .bool false, .int .u64 0, .int .u64 0, .int .u64 0, .int .u64 0, .int .u64 0, .int .u64 0, .int .u64 0, .int .u64 0, .int .u64 0], .slice none 0 0], []⟩ 8 (by kernel_rfl) (by kernel_rfl) (by kernel_rfl) (by kernel_rfl)) ?_
  intro W base args ds gs before hval0 hW hcnd hsz0 _
  have hval : ∀ (j : Nat) t v, Try.f25.params[j]? = some t → args[j]? = some v → Value.okWide Try.prog W .any base t v := hval0
  have hsz : (DataW.weightsEach Try.prog (Try.f25.params.toList ++ []) (ds ++ gs)).all (· ≤ reachBytes) = true := hsz0
  rw [Try.params25] at hsz
  have hpost : ∀ W', Below W.heap.size W W' → Rows.gateApartSpec.post enc Try.prog Try.f25 false true false false W args (.bool true) W' := fun W' hb =>
    law_post rfl rfl Try.underlying4 laidOut (by kernel_rfl) fits hW hb
  obtain ⟨p, q, hA0, hV, rfl, hfz, hnd⟩ := hW
  have hA : DataW.TrodAll enc Try.prog W 0 (fun _ => true) true Try.f25.params.toList args.toList ds p := hA0
  rw [Try.params25] at hA hval
  obtain ⟨rfl, rfl⟩ := trodVars_none hV
  obtain ⟨v0, vs0, dd0, ds0, p0, q0, hargs, rfl, rfl, h0, hr0⟩ := trodAll_cons hA
  obtain ⟨v1, vs1, dd1, ds1, p1, q1, rfl, rfl, rfl, h1, hr1⟩ := trodAll_cons hr0
  obtain ⟨v2, vs2, dd2, ds2, p2, q2, rfl, rfl, rfl, h2, hr2⟩ := trodAll_cons hr1
  obtain ⟨rfl, rfl, rfl⟩ := trodAll_nil hr2
  obtain rfl : args = #[v0, v1, v2] := by cases args; simp_all
  have fit0 : Fits 61 dd0 := Fits.of_all hsz (j := 0) rfl rfl
  have fit1 : Fits 61 dd1 := Fits.of_all hsz (j := 1) rfl rfl
  obtain ⟨t0, p0, rfl, X0, Y0, Z0⟩ := open_thing (hval 0 61 v0 rfl rfl) h0
  obtain ⟨t1, p1, rfl, X1, Y1, Z1⟩ := open_thing (hval 1 61 v1 rfl rfl) h1
  obtain ⟨A2, n2, c2, l2, rfl, T2⟩ := open_ints (hval 2 80 v2 rfl rfl) h2
  refine (walk t0 p0 t1 p1 A2 n2 c2 l2 W X0 Y0 X1 Y1 T2 (Z0 fit0) (Z1 fit1)).mono fun e W' ⟨he, hg⟩ => ?_
  subst he
  exact ⟨_, rfl, hpost W' hg⟩

theorem closed : joinedFacts Try.prog 25 Try.f25 Rows.gateApartSpec Rows.gateApartRow = true := by
  unfold joinedFacts
  rw [enters, finals, made]
  kernel_rfl

theorem over : Rows.gateApartRow.holds Try.pinned (OpenSpec.ofChange Rows.gateApartSpec) :=
  OpenClaim.holds_of_wide 25 Try.f25 rfl rfl rfl rfl rfl rfl rfl ⟨rfl, rfl, rfl, rfl, rfl⟩ rfl rfl rfl rfl rfl (by kernel_rfl) Try.func25 closed
    (of_decide_eq_true (by kernel_rfl)) (by unfold Func.isWrapper; rw [if_neg (by decide +kernel)]; exact ⟨rfl, rfl⟩)
    (fun os started H enc _ => lifted os started H enc)

theorem proved : Rows.GateApartSaid := over
end Go.Proofs.Ytndohmimcbmhdaa.lawGateApart
