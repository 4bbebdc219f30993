/-
  LabelMakes: called with any values of its parameters, the law answers true, and of what lay in memory nothing has turned. No condition.
-/
import Derived.Test.YtndohmimcbmhdaaRows
import Derived.Test.YtndohmimcbmhdaaFrame
import Derived.Test.YtndohmimcbmhdaaHead
import Derived.Test.YtndohmimcbmhdaaOp
import Derived.Test.YtndohmimcbmhdaaRd
set_option linter.unusedVariables false
set_option linter.unusedSimpArgs false
namespace Go.Proofs.Ytndohmimcbmhdaa.lawLabelMakes
open Go.ChangeShapes Go.WideShapes Go.ChangeAt Go.RowKit Go.Sort

theorem own : ownKnob Try.prog.godebug = none := by kernel_rfl
theorem laidOut : laidOutB Try.prog = true := by kernel_rfl


set_option maxHeartbeats 4000000 in
set_option maxRecDepth 100000 in
theorem walk (a0 : Int) (A1 : Option Addr) (n1 : Nat) (c1 : Nat) (l1 : List (Int × Int)) (a2 : Int) (w : World) (b0 : -9223372036854775808 ≤ a0 ∧ a0 ≤ 9223372036854775807) (t1 : CatsAt w w.heap.size A1 n1 c1 l1) (b2 : 0 ≤ a2 ∧ a2 ≤ 18446744073709551615) (z1 : n1 ≤ 8796093022207) :
    Calls Try.prog 4 #[.int .i64 a0, .slice A1 n1 c1, .int .u64 a2] w fun e w' => e = .returned (.bool true) ∧ Below w.heap.size w w' := by
  have mixed : Try.prog.follows .mixedOrders = true := by kernel_rfl
  obtain ⟨i0, hi0, hz0, hz1, hz2⟩ := info_parts cat_info
  have H1 := hid t1
  have HL1 := hid t1.len
  have HR1 := hid (t1.reads)
  have HZ := hid z1
  have hn63 : n1 ≤ 9223372036854775807 := by omega
  have HO := hid (World.ownsRow_made (base := w.heap.size) (e := 32) (size := 2) w #[] 0 (Nat.le_refl _) (by simp [maxLen]) rfl)
  clear t1
  go_enter Try.func4, Try.ntmps4
  go_wp2_with (at_builtin; refine wpList_append_any _ rfl (.tmp 11) (.tmp 12) _ rfl w.heap.size 32 i0 _ 2 16 Try.underlying23 hi0 hz0 hz1 hz2 rfl (by omega) _ 0 [] rfl HO.out w.heap.size A1 n1 c1 (flat l1) rfl (HR1.out.alloc (Nat.le_refl _) _) (flat_one l1) (by unfold maxLen; omega) (by omega) (by simp) ?_; intro v1 w1 hown hg hat; have HB1 : Hid (Below w.heap.size w w1) := ((Below.refl _ w).alloc (Nat.le_refl _) _).grown hg (by simp) (fun g e => (World.ownsRow.lt HO.out g e).1); have hv1 : OwnCats w1 w.heap.size v1 l1 := OwnCats.of_own (by rw [HL1.out]; simpa using hown); obtain ⟨A, n, c, rfl, hT⟩ := OwnCats.at_ hv1; obtain rfl : n = n1 := hT.len.symm.trans HL1.out; have HT := hid hT; clear hown hg hat hv1 hT)
  refine (make34_l w1 a0 A n c l1 HT.out (by omega)).mono ?_
  rintro e w2 ⟨v2, rfl, ⟨A2, n2, c2, rfl, hT2⟩, hb2⟩
  have HT2 := hid hT2
  have HB2 := hid (belowT HB1.out hb2)
  have HTb := hid ((HT.out.below hb2).more hb2.size)
  clear hb2 hT2
  go_wp2_with fail
  have BX : Hid (Below w2.heap.size w2 (w2.alloc (.cells #[.int .i64 a0, .slice A2 n2 c2] 26))) := (Below.refl _ w2).alloc (Nat.le_refl _) _
  have PX : Hid (Blk (w2.alloc (.cells #[.int .i64 a0, .slice A2 n2 c2] 26)) w2.heap.size 26 #[.int .i64 a0, .slice A2 n2 c2]) := Blk.new w2 26 _
  have H1b := hid ((H1.out.below HB2.out).more HB2.out.size)
  have H1c := hid ((H1b.out.below BX.out).more BX.out.size)
  generalize w2.alloc (.cells #[.int .i64 a0, .slice A2 n2 c2] 26) = wx at *
  refine ((form35 wx a0 A1 n c1 l1 H1c.out (by omega)).mono fun _ _ h => h.lab).mono ?_
  rintro e w3 ⟨v3, rfl, ⟨A3, n3, c3, rfl, hT3⟩, hb3⟩
  have HT3 := hid hT3
  have HB3 := hid (belowT (belowT HB2.out BX.out) hb3)
  have HT2c := hid ((((HT2.out.below BX.out).more BX.out.size).below hb3).more hb3.size)
  have HTc := hid ((((HTb.out.below BX.out).more BX.out.size).below hb3).more hb3.size)
  have PX3 := hid (PX.out.below hb3 PX.out.lt)
  have hx3 := Nat.lt_of_lt_of_le PX.out.lt hb3.size
  clear hb3 hT3
  go_wp2_with fail
  have BY : Hid (Below w3.heap.size w3 (w3.alloc (.cells #[.int .i64 a0, .slice A3 n3 c3] 26))) := (Below.refl _ w3).alloc (Nat.le_refl _) _
  have PY : Hid (Blk (w3.alloc (.cells #[.int .i64 a0, .slice A3 n3 c3] 26)) w3.heap.size 26 #[.int .i64 a0, .slice A3 n3 c3]) := Blk.new w3 26 _
  have PX4 := hid (PX3.out.below BY.out PX3.out.lt)
  have HB4 := hid (belowT HB3.out BY.out)
  have HT2d := hid ((HT2c.out.below BY.out).more BY.out.size)
  have HT3d := hid ((HT3.out.below BY.out).more BY.out.size)
  have HTd := hid ((HTc.out.below BY.out).more BY.out.size)
  generalize w3.alloc (.cells #[.int .i64 a0, .slice A3 n3 c3] 26) = wy at *
  refine (alive33 wy).mono ?_
  rintro e w4 ⟨rfl, hb4⟩
  have PX5 := PX4.out.below hb4 PX4.out.lt
  have PY5 := PY.out.below hb4 PY.out.lt
  obtain ⟨⟨x0, x1⟩, x2, x3⟩ := label_zero PX5
  obtain ⟨⟨y0, y1⟩, y2, y3⟩ := label_zero PY5
  have HX4 := hid (exact36 w4 a0 a0 A2 A3 n2 c2 n3 c3 (formL a0 l1) (formL a0 l1) ((HT2d.out.below hb4).more hb4.size) ((HT3d.out.below hb4).more hb4.size))
  rw [exact_same] at HX4
  have he : eqB (formL a0 l1) (formL a0 l1) = true := by unfold eqB; simp
  rw [he] at HX4
  have HB5 := hid (belowT HB4.out hb4)
  have HT5 := hid ((HTd.out.below hb4).more hb4.size)
  clear hb4 he PX5 PY5
  go_wp2_with fail
  refine HX4.out.mono ?_
  rintro e w5 ⟨rfl, hb5⟩
  have HL5 := hid (level_b w5 a0 A n c l1 a2 ((HT5.out.below hb5).more hb5.size))
  have HB6 := hid (belowT HB5.out hb5)
  have HT6 := hid ((HT5.out.below hb5).more hb5.size)
  clear hb5
  go_wp2_with fail
  refine HL5.out.mono ?_
  rintro e w6 ⟨rfl, hb6⟩
  have HB7 := hid (belowT HB6.out hb6)
  have HT7 := hid ((HT6.out.below hb6).more hb6.size)
  have HL6 := hid (level38_b w6 a0 A1 n c1 l1 a2 ((H1.out.below HB7.out).more HB7.out.size))
  clear hb6
  generalize levelL a0 l1 a2 = lv at *
  go_wp2_with fail
  refine HL6.out.mono ?_
  rintro e w7 ⟨rfl, hb7⟩
  have HB8 := hid (belowT HB7.out hb7)
  have HT8 := hid ((HT7.out.below hb7).more hb7.size)
  clear hb7
  go_wp2_with fail
  go_loopw [44] (fun vi wr => ∃ k : Nat, k ≤ n ∧ vi = .int .i64 k ∧ Hid (Below w7.heap.size w7 wr)) (fun vi _ => n - (intOf vi).toNat)
  case atStart => exact ⟨0, Nat.zero_le _, rfl, Below.refl _ _⟩
  case round =>
    obtain ⟨k, hk, rfl, BW⟩ := hrel
    have HBr := hid (belowT HB8.out BW.out)
    by_cases hlt : k < n
    · have hltz : (k : Int) < (n : Int) := by omega
      obtain ⟨b, off, i, v, rfl, hbB, hx, c0, c1'⟩ := (HT8.out.below BW.out).at2_ hlt
      obtain ⟨b', off', i', v', rfl, hbB', hx', c0', c1''⟩ := ((H1.out.below HBr.out)).at2_ hlt
      rw [hx] at hx'
      injection hx' with hx'
      injection hx' with e1 e2
      subst e1 e2
      clear hx
      go_wp2_with fail
      go_quiet (fail)
      go_wp2_with fail
      go_roundw
      case measure => simp [intOf] <;> omega
      case rel => exact ⟨k + 1, by omega, by go_num, below_drewN' BW.out _⟩
    · have hltz : ¬ (k : Int) < (n : Int) := by omega
      go_wp2_with fail
      go_ret
      exact ⟨rfl, HBr.out⟩

theorem fits {H : Type} : ∀ ds : List (DataW H), ds.length = Try.f4.params.toList.length → Rows.labelMakesSpec.fn H ds = { results := [.lit (.bool true)], args := ds } := by
  intro ds h
  rw [Try.params4] at h
  match ds, h with
  | [e0, e1, e2], _ => rfl

set_option maxRecDepth 100000 in
theorem lifted (os : Os) (started : os.Started) (H : Type) (enc : TypeId × Value → H) :
    ReturnsInHanded {} Try.checked os 4 .any (Rows.labelMakesSpec.pre6 enc Try.prog Try.f4 Rows.labelMakesRow.domain false) (Rows.labelMakesSpec.post enc Try.prog Try.f4 false true false false) := by
  refine returnsInHanded_of_change_sized (C := Try.checked) own started (by kernel_rfl) Try.func4
    (ChangeSpec.witness6 (enc := enc) (C := Try.checked) false ⟨#[], #[.int .i64 0, .slice none 0 0, .int .u64 0], []⟩ 8 (by kernel_rfl) (by kernel_rfl) (by kernel_rfl) (by kernel_rfl)) ?_
  intro W base args ds gs before hval0 hW hcnd hsz0 _
  have hval : ∀ (j : Nat) t v, Try.f4.params[j]? = some t → args[j]? = some v → Value.okWide Try.prog W .any base t v := hval0
  have hsz : (DataW.weightsEach Try.prog (Try.f4.params.toList ++ []) (ds ++ gs)).all (· ≤ reachBytes) = true := hsz0
  rw [Try.params4] at hsz
  have hpost : ∀ W', Below W.heap.size W W' → Rows.labelMakesSpec.post enc Try.prog Try.f4 false true false false W args (.bool true) W' := fun W' hb =>
    law_post rfl rfl Try.underlying4 laidOut (by kernel_rfl) fits hW hb
  obtain ⟨p, q, hA0, hV, rfl, hfz, hnd⟩ := hW
  have hA : DataW.TrodAll enc Try.prog W 0 (fun _ => true) true Try.f4.params.toList args.toList ds p := hA0
  rw [Try.params4] at hA hval
  obtain ⟨rfl, rfl⟩ := trodVars_none hV
  obtain ⟨v0, vs0, dd0, ds0, p0, q0, hargs, rfl, rfl, h0, r0⟩ := trodAll_cons hA
  obtain ⟨v1, vs1, dd1, ds1, p1, q1, rfl, rfl, rfl, h1, r1⟩ := trodAll_cons r0
  obtain ⟨v2, vs2, dd2, ds2, p2, q2, rfl, rfl, rfl, h2, r2⟩ := trodAll_cons r1
  obtain ⟨rfl, rfl, rfl⟩ := trodAll_nil r2
  obtain rfl : args = #[v0, v1, v2] := by cases args; simp_all
  have fit1 : Fits 23 dd1 := Fits.of_all hsz (j := 1) rfl rfl
  obtain ⟨a0, rfl, rfl, rfl, w0⟩ := open_int Try.underlying3 (hval 0 3 v0 rfl rfl) h0
  obtain ⟨A1, n1, c1, l1, rfl, T1, F1, B1⟩ := open_cats (hval 1 23 v1 rfl rfl) h1
  obtain ⟨a2, rfl, rfl, rfl, w2⟩ := open_int Try.underlying24 (hval 2 24 v2 rfl rfl) h2
  refine (walk a0 A1 n1 c1 l1 a2 W (by simpa [Lit.wf, IntKind.min, IntKind.max, IntKind.signed, IntKind.bits] using w0) T1 (by simpa [Lit.wf, IntKind.min, IntKind.max, IntKind.signed, IntKind.bits] using w2) (F1 fit1)).mono fun e W' ⟨he, hg⟩ => ?_
  subst he
  exact ⟨_, rfl, hpost W' hg⟩

theorem closed : joinedFacts Try.prog 4 Try.f4 Rows.labelMakesSpec Rows.labelMakesRow = true := by
  unfold joinedFacts
  rw [enters, finals, made]
  kernel_rfl

theorem over : Rows.labelMakesRow.holds Try.pinned (OpenSpec.ofChange Rows.labelMakesSpec) :=
  OpenClaim.holds_of_wide 4 Try.f4 rfl rfl rfl rfl rfl rfl rfl ⟨rfl, rfl, rfl, rfl, rfl⟩ rfl rfl rfl rfl rfl (by kernel_rfl) Try.func4 closed
    (of_decide_eq_true (by kernel_rfl)) (by unfold Func.isWrapper; rw [if_neg (by decide +kernel)]; exact ⟨rfl, rfl⟩)
    (fun os started H enc _ => lifted os started H enc)

theorem proved : Rows.LabelMakesSaid := over
end Go.Proofs.Ytndohmimcbmhdaa.lawLabelMakes
