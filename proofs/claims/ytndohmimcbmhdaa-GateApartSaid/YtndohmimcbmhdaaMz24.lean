/- space.Map. -/
import Derived.Test.YtndohmimcbmhdaaMz23
set_option linter.unusedVariables false
set_option linter.unusedSimpArgs false
namespace Go.Proofs.Ytndohmimcbmhdaa
open Go.RowKit Go.Sort

def setSlot (t : Th) (i : Int) (s : Int × Int) : Th := if i = 0 then { t with s0 := s.1, s1 := s.2 } else if i = 1 then { t with s2 := s.1, s3 := s.2 } else if i = 2 then { t with s4 := s.1, s5 := s.2 } else { t with s6 := s.1, s7 := s.2 }
theorem setSlot_cells (t : Th) {i : Int} (h0 : 0 ≤ i) (hi : i < 4) (s : Int × Int) : splice t.cells (18 + i.toNat * 2) [.int .u64 s.1, .int .u64 s.2] = (setSlot t i s).cells := by
  have : i = 0 ∨ i = 1 ∨ i = 2 ∨ i = 3 := by omega
  rcases this with rfl | rfl | rfl | rfl <;> rfl
theorem setSlot_kind (t : Th) (i : Int) (s : Int × Int) : (setSlot t i s).kind = t.kind := by unfold setSlot; split <;> (try split) <;> (try split) <;> rfl
theorem setSlot_same (t : Th) (i : Int) (s : Int × Int) : (setSlot t i s).id = t.id ∧ (setSlot t i s).l1 = t.l1 ∧ (setSlot t i s).l2 = t.l2 ∧ (setSlot t i s).links = t.links ∧ (setSlot t i s).data = t.data := by
  unfold setSlot; split <;> (try split) <;> (try split) <;> exact ⟨rfl, rfl, rfl, rfl, rfl⟩
theorem setSlot_R {t : Th} (h : ThR t) (i : Int) {s : Int × Int} (h1 : u64R s.1) (h2 : u64R s.2) : ThR (setSlot t i s) := by
  obtain ⟨a1, a2, a3, a4, a5, a6, a7, a8, a9, a10, a11, a12, a13, b0, b1, b2, b3, b4, b5, b6, b7⟩ := h
  unfold setSlot; split <;> (try split) <;> (try split) <;> (constructor <;> assumption)
theorem setSlot_at {w : World} {t : Th} {p : Tl} (h : ThAt w t p) (i : Int) (s : Int × Int) : ThAt w (setSlot t i s) p := by
  obtain ⟨_, e1, e2, e3, e4⟩ := setSlot_same t i s
  exact ⟨by rw [e1]; exact h.c1, by rw [e2]; exact h.c2, by rw [e3]; exact h.lk, by rw [e4]; exact h.dt⟩
theorem slices_R {t : Th} (h : ThR t) (a b c d : Sl) : ThR (t.slices a b c d) := ⟨h.id, h.kind, h.d1, h.d2, h.quota, h.next, h.r0, h.r1, h.r2, h.r3, h.minted, h.boot, h.value, h.s0, h.s1, h.s2, h.s3, h.s4, h.s5, h.s6, h.s7⟩
theorem setSlot_slices (t : Th) (i : Int) (s : Int × Int) (a b c d : Sl) : setSlot (t.slices a b c d) i s = (setSlot t i s).slices a b c d := by
  unfold setSlot; split <;> (try split) <;> (try split) <;> rfl

/-- A thing and a number are handed back: the thing reads so. -/
def RetThN (t : Th) (p : Tl) (n : Int) (w : World) (e : Ending) (w' : World) : Prop := ∃ a b c d : Sl, e = .returned (.tuple #[.agg (thC (t.slices a b c d)), .int .i64 n]) ∧ ThAt w' (t.slices a b c d) p ∧ Below w.heap.size w w'
def mapOk (t : Th) (p : Tl) (i : Int) (s : Int × Int) : Bool := decide (0 ≤ i ∧ i < 4) && right_5 (setSlot t i s) p

theorem th_run2 {w : World} {g : Nat} {t : Th} {v : Value} (h : Blk w g 61 (thC t)) {fn : Func} {p q : Tmp} (hf : fn.results = #[.cell p 61, .tmp q]) (tmps : Array Value) (hp : tmps.getD p undef = .pointer (some ⟨g, 0, none⟩)) (hq : tmps.getD q undef = v) :
    (results fn tmps).run Try.prog w = .ok (.tuple #[.agg (thC t), v]) w := by
  have hp' : tmps[p]?.getD undef = .pointer (some ⟨g, 0, none⟩) := by simpa using hp
  have hq' : tmps[q]?.getD undef = v := by simpa using hq
  have hl := run_loadVar_row (P := Try.prog) w g 61 61 (thC t) (0, 0) _ h Try.underlying61 rfl th_info
  simp [results, hf, hp', hq', asAddr, hl]
theorem keep_th {D : Nat → Prop} {w w' : World} {t : Th} {p : Tl} {a b c d : Sl} {B : Nat} (ha : CatsF B p.l1 w a) (hb : CatsF B p.l2 w b) (hc : CatsF B p.links w c) (hd : BytesF B p.data w d) (h : But D w w') (hD : ∀ k, D k → k < B) : ThAt w' (t.slices a b c d) p :=
  ⟨(ha.keep h hD).1, (hb.keep h hD).1, (hc.keep h hD).1, (hd.keep h hD).1⟩
theorem ret_same {t : Th} {p : Tl} {n : Int} {w w' : World} (h : ThAt w' t p) (hb : Below w.heap.size w w') : RetThN t p n w (.returned (.tuple #[.agg (thC t), .int .i64 n])) w' :=
  ⟨t.l1, t.l2, t.links, t.data, rfl, h, hb⟩

theorem CatsF.keep2 {D : Nat → Prop} {w w' : World} {B : Nat} {cs : List (Int × Int)} {s : Sl} (h : CatsF B cs w s) (hb : But D w w') (hD : ∀ k, D k → k < B ∨ w.heap.size ≤ k) : CatsF B cs w' s := by
  obtain ⟨h, hf⟩ := h
  refine ⟨⟨h.len, h.cap, h.max, fun hn => ?_⟩, hf⟩
  obtain ⟨b, off, e, hlt, hc⟩ := h.cells hn
  have hB := hf _ e
  have hx : ∀ o, w'.cell? ⟨b, o, none⟩ = w.cell? ⟨b, o, none⟩ := fun o => by
    simp only [World.cell?, hb.block b hlt (fun hd => by have := hD b hd; have : B ≤ b := hB; omega)]
  exact ⟨b, off, e, Nat.lt_of_lt_of_le hlt hb.size, fun i x hi => ⟨(hx _).trans (hc i x hi).1, (hx _).trans (hc i x hi).2⟩⟩
theorem BytesF.keep2 {D : Nat → Prop} {w w' : World} {B : Nat} {cs : List Int} {s : Sl} (h : BytesF B cs w s) (hb : But D w w') (hD : ∀ k, D k → k < B ∨ w.heap.size ≤ k) : BytesF B cs w' s := by
  obtain ⟨h, hf⟩ := h
  refine ⟨⟨h.len, h.cap, h.max, h.fit, fun hn => ?_⟩, hf⟩
  obtain ⟨b, off, e, hlt, hc⟩ := h.cells hn
  have hB := hf _ e
  have hx : ∀ o, w'.cell? ⟨b, o, none⟩ = w.cell? ⟨b, o, none⟩ := fun o => by
    simp only [World.cell?, hb.block b hlt (fun hd => by have := hD b hd; have : B ≤ b := hB; omega)]
  exact ⟨b, off, e, Nat.lt_of_lt_of_le hlt hb.size, fun i x hi => (hx _).trans (hc i x hi)⟩
theorem keep_th2 {D : Nat → Prop} {w w' : World} {t : Th} {p : Tl} {a b c d : Sl} {B : Nat} (ha : CatsF B p.l1 w a) (hb : CatsF B p.l2 w b) (hc : CatsF B p.links w c) (hd : BytesF B p.data w d) (h : But D w w') (hD : ∀ k, D k → k < B ∨ w.heap.size ≤ k) : ThAt w' (t.slices a b c d) p :=
  ⟨(ha.keep2 h hD).1, (hb.keep2 h hD).1, (hc.keep2 h hD).1, (hd.keep2 h hD).1⟩

set_option maxHeartbeats 8000000 in
set_option maxRecDepth 100000 in
theorem map73 (w : World) (t : Th) (p : Tl) (i x y : Int) (h : ThAt w t p) (hr : ThR t) (hk : t.kind = 5) (hx : u64R x) (hy : u64R y) (z1 : t.l1.n ≤ 8796093022208) (z2 : t.l2.n ≤ 8796093022208) (z3 : t.links.n ≤ 8796093022208) (z4 : t.data.n ≤ 140737488355328) :
    Calls Try.prog 73 #[.agg (thC t), .int .i64 i, .agg #[.int .u64 x, .int .u64 y]] w fun e w' => RetThN (if mapOk t p i (x, y) then setSlot t i (x, y) else t) p (if mapOk t p i (x, y) then 0 else 171) w e w' := by
  obtain ⟨q0, q1, q2, q3⟩ := three_blk w (thC t) #[.int .u64 x, .int .u64 y] (thC zeroTh) 61 52 61
  have HB := hid q0
  have HP1 := hid q1
  have HP2 := hid q2
  have HP3 := hid q3
  have H := hid (ThAt.below h q0)
  have HI := hid (ThAt.in_ h q0)
  have hsz : ((w.alloc (.cells (thC t) 61)).alloc (.cells #[.int .u64 x, .int .u64 y] 52)).heap.size = w.heap.size + 1 + 1 := by simp
  have HRX := hid (fun a b c d => setSlot_R (slices_R hr a b c d) i (s := (x, y)) hx hy)
  have HKX : Hid (∀ a b c d, (setSlot (t.slices a b c d) i (x, y)).kind = 5) := fun a b c d => (setSlot_kind _ _ _).trans hk
  clear q0 q1 q2 q3 h hr hx hy hk
  obtain ⟨m, hm⟩ : ∃ m, m = mapOk t p i (x, y) := ⟨_, rfl⟩
  rw [← hm]
  have HM := hid hm
  clear hm
  by_cases hi : 0 ≤ i ∧ i < 4
  · obtain ⟨hi0, hi4⟩ := hi
    have hi1 : ¬ i < 0 := by omega
    have hi2 : ¬ 4 ≤ i := by omega
    have HMV : Hid (∀ a b c d, right_5 (setSlot (t.slices a b c d) i (x, y)) p = m) := fun a b c d => by
      rw [HM.out]; unfold mapOk; rw [decide_eq_true ⟨hi0, hi4⟩, Bool.true_and, setSlot_slices]; rfl
    have H89 : Hid (∀ (a b c d : Sl) (W : World), ThAt W (setSlot (t.slices a b c d) i (x, y)) p → Calls Try.prog 89 #[.agg (thC (setSlot (t.slices a b c d) i (x, y)))] W fun e w' => e = .returned (.bool m) ∧ Below W.heap.size W w') := fun a b c d W hW => by
      have := right89_5 W (setSlot (t.slices a b c d) i (x, y)) p hW (HRX.out a b c d) (HKX.out a b c d)
      rw [HMV.out a b c d] at this
      exact this
    clear HM HMV HRX HKX
    cases m with
    | true =>
      go_enter Try.func73, Try.ntmps73
      go_wp2_with (first
          | (refine wpList_alloc61 ?_; rw [hsz]; generalize ((w.alloc (.cells (thC t) 61)).alloc (.cells #[.int .u64 x, .int .u64 y] 52)).alloc (.cells (thC zeroTh) 61) = wa at *)
          | (refine wpList_load61 t w.heap.size rfl HP1.out ?_)
          | (refine wpList_load61 t w.heap.size rfl HL1.out ?_)
          | (go_at_call 91
             refine (copy91 wa t p H.out z1 z2 z3 z4).mono ?_
             rintro e w1 ⟨a, b, c, d, rfl, ha, hb, hc, hd, hbl⟩
             have HA := hid ha
             have HBb := hid hb
             have HC := hid hc
             have HD := hid hd
             have HB1 := hid (HB.out.trans (hbl.mono HB.out.size))
             have HK1 := hid (HP1.out.below hbl HP1.out.lt)
             have HK2 := hid (HP2.out.below hbl HP2.out.lt)
             have HK3 := hid (HP3.out.below hbl HP3.out.lt)
             have HBL := hid hbl
             have hle1 : wa.heap.size ≤ w1.heap.size := hbl.size
             clear ha hb hc hd hbl)
          | (refine wpList_new61 (t.slices a b c d) rfl rfl ?_
             have HB2 := hid (HB1.out.alloc HB1.out.size (.cells (thC (t.slices a b c d)) 61))
             have HL1 := hid (HK1.out.alloc (.cells (thC (t.slices a b c d)) 61))
             have HL2 := hid (HK2.out.alloc (.cells (thC (t.slices a b c d)) 61))
             have HL3 := hid (HK3.out.alloc (.cells (thC (t.slices a b c d)) 61))
             have HL4 : Hid (Blk (w1.alloc (.cells (thC (t.slices a b c d)) 61)) w1.heap.size 61 (thC (t.slices a b c d))) := Blk.new w1 61 _
             have HW : Hid (But nil_ w1 (w1.alloc (.cells (thC (t.slices a b c d)) 61))) := (But.refl _ w1).alloc _
             generalize w1.alloc (.cells (thC (t.slices a b c d)) 61) = w2 at *
             obtain ⟨f1, f2⟩ := Blk.cells2 HL2.out)
          | (refine wpList_load61 (setSlot (t.slices a b c d) i (x, y)) w1.heap.size rfl HK6.out ?_
             refine wpList_store61 (setSlot (t.slices a b c d) i (x, y)) zeroTh (w.heap.size + 1 + 1) rfl rfl HM3.out ?_
             intro w5 hb5 hk5)
          | (refine wpList_load61 (setSlot (t.slices a b c d) i (x, y)) w1.heap.size rfl HK5.out ?_)
          | (go_at_call 89
             refine (H89.out a b c d w3 HT3.out).mono ?_
             rintro e w4 ⟨rfl, hb4⟩
             have HB4 := hid (HB3.out.trans (hb4.mono HB3.out.size))
             have HW4 : Hid (But (at_ w1.heap.size) w1 w4) := HW3.out.trans (((But.refl nil_ w3).below hb4).into (fun _ x => x.elim))
             have HK6 := hid (HK5.out.below hb4 HK5.out.lt)
             have HM1 := hid (HL1'.out.below hb4 HL1'.out.lt)
             have HM3 := hid (HL3'.out.below hb4 HL3'.out.lt)
             clear hb4)
          | (refine wpList_part (ty := 52) (g := w1.heap.size) (off := 18 + i.toNat * 2) (t := 61) (cur := (t.slices a b c d).cells) [.int .u64 x, .int .u64 y] rfl rfl HL4.out rfl size52 (by show 18 + i.toNat * 2 + 2 ≤ 26; omega) (one_of rfl) ?_
             intro w3 hb3 hk3
             rw [setSlot_cells (t.slices a b c d) hi0 hi4 (x, y)] at hk3
             have HK5 : Hid (Blk w3 w1.heap.size 61 (thC (setSlot (t.slices a b c d) i (x, y)))) := hk3
             have HB3 := hid (hb3.done HB2.out (fun k e => by have := HBL.out.size; have := HB.out.size; omega) (by have := HW.out.size; have := HBL.out.size; have := HB.out.size; omega))
             have HW3 : Hid (But (at_ w1.heap.size) w1 w3) := (HW.out.into (fun _ x => x.elim)).trans hb3
             have HT3 := hid (setSlot_at (keep_th2 (t := t) HA.out HBb.out HC.out HD.out HW3.out (fun k e => .inr (Nat.le_of_eq (show w1.heap.size = k from Eq.symm e)))) i (x, y))
             have HL1' := hid (hb3.blk HL1.out (fun e => by have := HP1.out.lt; omega))
             have HL3' := hid (hb3.blk HL3.out (fun e => by have := HP3.out.lt; omega))
             clear hb3 hk3))
      have hlm := HM3.out.lt
      have hls := HB.out.size
      have hlp := HP3.out.lt
      rw [setSlot_slices] at hk5
      refine bodyPost_ret (th_run2 hk5 rfl _ rfl rfl) rfl ⟨a, b, c, d, rfl, ?_, hb5.done HB4.out (fun k e => by omega) (by omega)⟩
      have hw5 : But (fun k => k = w1.heap.size ∨ k = w.heap.size + 1 + 1) w1 w5 := (HW4.out.into (fun k e => .inl e)).trans (hb5.into (fun k e => .inr e))
      exact keep_th2 (t := setSlot t i (x, y)) HA.out HBb.out HC.out HD.out hw5 (fun k e => by rcases e with e | e <;> omega)
    | false =>
      go_enter Try.func73, Try.ntmps73
      go_wp2_with (first
          | (refine wpList_alloc61 ?_; rw [hsz]; generalize ((w.alloc (.cells (thC t) 61)).alloc (.cells #[.int .u64 x, .int .u64 y] 52)).alloc (.cells (thC zeroTh) 61) = wa at *)
          | (refine wpList_load61 t w.heap.size rfl HP1.out ?_)
          | (refine wpList_load61 t w.heap.size rfl HL1.out ?_)
          | (go_at_call 91
             refine (copy91 wa t p H.out z1 z2 z3 z4).mono ?_
             rintro e w1 ⟨a, b, c, d, rfl, ha, hb, hc, hd, hbl⟩
             have HA := hid ha
             have HBb := hid hb
             have HC := hid hc
             have HD := hid hd
             have HB1 := hid (HB.out.trans (hbl.mono HB.out.size))
             have HK1 := hid (HP1.out.below hbl HP1.out.lt)
             have HK2 := hid (HP2.out.below hbl HP2.out.lt)
             have HK3 := hid (HP3.out.below hbl HP3.out.lt)
             have HBL := hid hbl
             have hle1 : wa.heap.size ≤ w1.heap.size := hbl.size
             clear ha hb hc hd hbl)
          | (refine wpList_new61 (t.slices a b c d) rfl rfl ?_
             have HB2 := hid (HB1.out.alloc HB1.out.size (.cells (thC (t.slices a b c d)) 61))
             have HL1 := hid (HK1.out.alloc (.cells (thC (t.slices a b c d)) 61))
             have HL2 := hid (HK2.out.alloc (.cells (thC (t.slices a b c d)) 61))
             have HL3 := hid (HK3.out.alloc (.cells (thC (t.slices a b c d)) 61))
             have HL4 : Hid (Blk (w1.alloc (.cells (thC (t.slices a b c d)) 61)) w1.heap.size 61 (thC (t.slices a b c d))) := Blk.new w1 61 _
             have HW : Hid (But nil_ w1 (w1.alloc (.cells (thC (t.slices a b c d)) 61))) := (But.refl _ w1).alloc _
             generalize w1.alloc (.cells (thC (t.slices a b c d)) 61) = w2 at *
             obtain ⟨f1, f2⟩ := Blk.cells2 HL2.out)
          | (refine wpList_load61 t w.heap.size rfl HM1.out ?_
             refine wpList_store61 t zeroTh (w.heap.size + 1 + 1) rfl rfl HM3.out ?_
             intro w5 hb5 hk5)
          | (refine wpList_load61 (setSlot (t.slices a b c d) i (x, y)) w1.heap.size rfl HK5.out ?_)
          | (go_at_call 89
             refine (H89.out a b c d w3 HT3.out).mono ?_
             rintro e w4 ⟨rfl, hb4⟩
             have HB4 := hid (HB3.out.trans (hb4.mono HB3.out.size))
             have HW4 : Hid (But (at_ w1.heap.size) w1 w4) := HW3.out.trans (((But.refl nil_ w3).below hb4).into (fun _ x => x.elim))
             have HK6 := hid (HK5.out.below hb4 HK5.out.lt)
             have HM1 := hid (HL1'.out.below hb4 HL1'.out.lt)
             have HM3 := hid (HL3'.out.below hb4 HL3'.out.lt)
             clear hb4)
          | (refine wpList_part (ty := 52) (g := w1.heap.size) (off := 18 + i.toNat * 2) (t := 61) (cur := (t.slices a b c d).cells) [.int .u64 x, .int .u64 y] rfl rfl HL4.out rfl size52 (by show 18 + i.toNat * 2 + 2 ≤ 26; omega) (one_of rfl) ?_
             intro w3 hb3 hk3
             rw [setSlot_cells (t.slices a b c d) hi0 hi4 (x, y)] at hk3
             have HK5 : Hid (Blk w3 w1.heap.size 61 (thC (setSlot (t.slices a b c d) i (x, y)))) := hk3
             have HB3 := hid (hb3.done HB2.out (fun k e => by have := HBL.out.size; have := HB.out.size; omega) (by have := HW.out.size; have := HBL.out.size; have := HB.out.size; omega))
             have HW3 : Hid (But (at_ w1.heap.size) w1 w3) := (HW.out.into (fun _ x => x.elim)).trans hb3
             have HT3 := hid (setSlot_at (keep_th2 (t := t) HA.out HBb.out HC.out HD.out HW3.out (fun k e => .inr (Nat.le_of_eq (show w1.heap.size = k from Eq.symm e)))) i (x, y))
             have HL1' := hid (hb3.blk HL1.out (fun e => by have := HP1.out.lt; omega))
             have HL3' := hid (hb3.blk HL3.out (fun e => by have := HP3.out.lt; omega))
             clear hb3 hk3))
      have hlm := HM3.out.lt
      have hls := HB.out.size
      have hlp := HP3.out.lt
      have hw5 : But (fun k => w.heap.size ≤ k) wa w5 := (((But.refl nil_ wa).below HBL.out).into (fun _ x => x.elim)).trans ((HW4.out.into (fun k e => by have : k = w1.heap.size := e; omega)).trans (hb5.into (fun k e => by omega)))
      exact bodyPost_ret (th_run2 hk5 rfl _ rfl rfl) rfl (ret_same (HI.out.but hw5 HB.out.size (fun k e => e)) (hb5.done HB4.out (fun k e => by omega) (by omega)))
  · have hmf : m = false := by rw [HM.out]; unfold mapOk; rw [decide_eq_false hi]; rfl
    subst hmf
    by_cases hi0 : i < 0
    · skip
      go_enter Try.func73, Try.ntmps73
      go_wp2_with (first
          | (refine wpList_alloc61 ?_; rw [hsz]; generalize ((w.alloc (.cells (thC t) 61)).alloc (.cells #[.int .u64 x, .int .u64 y] 52)).alloc (.cells (thC zeroTh) 61) = wa at *)
          | (refine wpList_load61 t w.heap.size rfl HP1.out ?_)
          | (refine wpList_load61 t w.heap.size rfl HL1.out ?_)
          | (go_at_call 91
             refine (copy91 wa t p H.out z1 z2 z3 z4).mono ?_
             rintro e w1 ⟨a, b, c, d, rfl, ha, hb, hc, hd, hbl⟩
             have HA := hid ha
             have HBb := hid hb
             have HC := hid hc
             have HD := hid hd
             have HB1 := hid (HB.out.trans (hbl.mono HB.out.size))
             have HK1 := hid (HP1.out.below hbl HP1.out.lt)
             have HK2 := hid (HP2.out.below hbl HP2.out.lt)
             have HK3 := hid (HP3.out.below hbl HP3.out.lt)
             have HBL := hid hbl
             have hle1 : wa.heap.size ≤ w1.heap.size := hbl.size
             clear ha hb hc hd hbl)
          | (refine wpList_new61 (t.slices a b c d) rfl rfl ?_
             have HB2 := hid (HB1.out.alloc HB1.out.size (.cells (thC (t.slices a b c d)) 61))
             have HL1 := hid (HK1.out.alloc (.cells (thC (t.slices a b c d)) 61))
             have HL2 := hid (HK2.out.alloc (.cells (thC (t.slices a b c d)) 61))
             have HL3 := hid (HK3.out.alloc (.cells (thC (t.slices a b c d)) 61))
             have HL4 : Hid (Blk (w1.alloc (.cells (thC (t.slices a b c d)) 61)) w1.heap.size 61 (thC (t.slices a b c d))) := Blk.new w1 61 _
             have HW : Hid (But nil_ w1 (w1.alloc (.cells (thC (t.slices a b c d)) 61))) := (But.refl _ w1).alloc _
             generalize w1.alloc (.cells (thC (t.slices a b c d)) 61) = w2 at *
             obtain ⟨f1, f2⟩ := Blk.cells2 HL2.out)
          | (refine wpList_store61 t zeroTh (w.heap.size + 1 + 1) rfl rfl HL3.out ?_
             intro w3 hb3 hk3))
      have hl3 := HL3.out.lt
      have hls := HB.out.size
      have hw5 : But (fun k => w.heap.size ≤ k) wa w3 := (((But.refl nil_ wa).below HBL.out).into (fun _ x => x.elim)).trans ((HW.out.into (fun _ x => x.elim)).trans (hb3.into (fun k e => by omega)))
      exact bodyPost_ret (th_run2 hk3 rfl _ rfl rfl) rfl (ret_same (HI.out.but hw5 HB.out.size (fun k e => e)) (hb3.done HB2.out (fun k e => by omega) (by omega)))
    · have hi4 : 4 ≤ i := by omega
      have hi1 : ¬ i < 0 := hi0
      go_enter Try.func73, Try.ntmps73
      go_wp2_with (first
          | (refine wpList_alloc61 ?_; rw [hsz]; generalize ((w.alloc (.cells (thC t) 61)).alloc (.cells #[.int .u64 x, .int .u64 y] 52)).alloc (.cells (thC zeroTh) 61) = wa at *)
          | (refine wpList_load61 t w.heap.size rfl HP1.out ?_)
          | (refine wpList_load61 t w.heap.size rfl HL1.out ?_)
          | (go_at_call 91
             refine (copy91 wa t p H.out z1 z2 z3 z4).mono ?_
             rintro e w1 ⟨a, b, c, d, rfl, ha, hb, hc, hd, hbl⟩
             have HA := hid ha
             have HBb := hid hb
             have HC := hid hc
             have HD := hid hd
             have HB1 := hid (HB.out.trans (hbl.mono HB.out.size))
             have HK1 := hid (HP1.out.below hbl HP1.out.lt)
             have HK2 := hid (HP2.out.below hbl HP2.out.lt)
             have HK3 := hid (HP3.out.below hbl HP3.out.lt)
             have HBL := hid hbl
             have hle1 : wa.heap.size ≤ w1.heap.size := hbl.size
             clear ha hb hc hd hbl)
          | (refine wpList_new61 (t.slices a b c d) rfl rfl ?_
             have HB2 := hid (HB1.out.alloc HB1.out.size (.cells (thC (t.slices a b c d)) 61))
             have HL1 := hid (HK1.out.alloc (.cells (thC (t.slices a b c d)) 61))
             have HL2 := hid (HK2.out.alloc (.cells (thC (t.slices a b c d)) 61))
             have HL3 := hid (HK3.out.alloc (.cells (thC (t.slices a b c d)) 61))
             have HL4 : Hid (Blk (w1.alloc (.cells (thC (t.slices a b c d)) 61)) w1.heap.size 61 (thC (t.slices a b c d))) := Blk.new w1 61 _
             have HW : Hid (But nil_ w1 (w1.alloc (.cells (thC (t.slices a b c d)) 61))) := (But.refl _ w1).alloc _
             generalize w1.alloc (.cells (thC (t.slices a b c d)) 61) = w2 at *
             obtain ⟨f1, f2⟩ := Blk.cells2 HL2.out)
          | (refine wpList_store61 t zeroTh (w.heap.size + 1 + 1) rfl rfl HL3.out ?_
             intro w3 hb3 hk3))
      have hl3 := HL3.out.lt
      have hls := HB.out.size
      have hw5 : But (fun k => w.heap.size ≤ k) wa w3 := (((But.refl nil_ wa).below HBL.out).into (fun _ x => x.elim)).trans ((HW.out.into (fun _ x => x.elim)).trans (hb3.into (fun k e => by omega)))
      exact bodyPost_ret (th_run2 hk3 rfl _ rfl rfl) rfl (ret_same (HI.out.but hw5 HB.out.size (fun k e => e)) (hb3.done HB2.out (fun k e => by omega) (by omega)))
end Go.Proofs.Ytndohmimcbmhdaa

/- The chapter's example of spaces. -/
set_option linter.unusedVariables false
set_option linter.unusedSimpArgs false
namespace Go.Proofs.Ytndohmimcbmhdaa
open Go.RowKit Go.Sort

def emptyT : Th := { zeroTh with id := 70, kind := 5, d1 := 2, quota := 1 }
def emptyL : Tl := ⟨[], [], [], []⟩
theorem empty69_e (w : World) : Calls Try.prog 69 #[] w fun e w' => e = .returned (.agg (thC emptyT)) ∧ Below w.heap.size w w' := empty69 w
theorem emptyT_R : ThR emptyT := by
  constructor <;> first | exact ⟨by decide, by decide⟩
theorem emptyT_at (w : World) : ThAt w emptyT emptyL := ⟨CatsAt.nil_, CatsAt.nil_, CatsAt.nil_, BytesAt.nil_⟩
/-- What a call of Map leaves of the empty space: some thing with those numbers. -/
def Like (t : Th) (p : Tl) (w : World) (u : Th) : Prop := ∃ a b c d : Sl, u = t.slices a b c d ∧ ThAt w u p
def RetLike (t : Th) (p : Tl) (n : Int) (w : World) (e : Ending) (w' : World) : Prop := ∃ u, e = .returned (.tuple #[.agg (thC u), .int .i64 n]) ∧ Like t p w' u ∧ Below w.heap.size w w'
theorem RetThN.like {t : Th} {p : Tl} {n : Int} {w w' : World} {e : Ending} (h : RetThN t p n w e w') : RetLike t p n w e w' := by
  obtain ⟨a, b, c, d, he, ht, hb⟩ := h
  exact ⟨_, he, ⟨a, b, c, d, rfl, ht⟩, hb⟩
theorem Like.below {t : Th} {p : Tl} {w w' : World} {u : Th} (h : Like t p w u) (hb : Below w.heap.size w w') : Like t p w' u := by
  obtain ⟨a, b, c, d, e, ht⟩ := h
  exact ⟨a, b, c, d, e, ht.below hb⟩
theorem bare5_set (i : Int) (s : Int × Int) : bare5 (setSlot emptyT i s) = setSlot emptyT i s := by
  unfold setSlot; split <;> (try split) <;> (try split) <;> rfl
theorem slots_empty {i : Int} (h0 : 0 ≤ i) (hi : i < 4) (s : Int × Int) : (slotsL (setSlot emptyT i s)).any oddSlot = oddSlot s := by
  have hz : oddSlot (0, 0) = false := by decide
  have : i = 0 ∨ i = 1 ∨ i = 2 ∨ i = 3 := by omega
  obtain ⟨x, y⟩ := s
  rcases this with rfl | rfl | rfl | rfl
  · show ([(x, y), (0, 0), (0, 0), (0, 0)] : List (Int × Int)).any oddSlot = _
    simp [hz]
  · show ([(0, 0), (x, y), (0, 0), (0, 0)] : List (Int × Int)).any oddSlot = _
    simp [hz]
  · show ([(0, 0), (0, 0), (x, y), (0, 0)] : List (Int × Int)).any oddSlot = _
    simp [hz]
  · show ([(0, 0), (0, 0), (0, 0), (x, y)] : List (Int × Int)).any oddSlot = _
    simp [hz]
theorem right_2_nil : rightB 2 [] = true := by decide
theorem pure_2_nil : pureB 2 [] = true := by unfold pureB; rw [right_2_nil]; rfl
theorem right_empty {i : Int} (h0 : 0 ≤ i) (hi : i < 4) (s : Int × Int) : right_5 (setSlot emptyT i s) emptyL = slotOk s.1 s.2 := by
  have e1 : (setSlot emptyT i s).id = 70 ∧ (setSlot emptyT i s).d1 = 2 ∧ (setSlot emptyT i s).quota = 1 := by
    unfold setSlot; split <;> (try split) <;> (try split) <;> exact ⟨rfl, rfl, rfl⟩
  unfold right_5
  rw [bare5_set, show bl0 emptyL = emptyL from rfl, sameT_refl, slots_empty h0 hi, e1.1, e1.2.1, e1.2.2]
  rw [show emptyL.l1 = [] from rfl, right_2_nil, pure_2_nil, show namedB 70 = true by decide]
  unfold oddSlot
  cases slotOk s.1 s.2 <;> rfl
theorem mapOk_empty (i : Int) (s : Int × Int) : mapOk emptyT emptyL i s = (decide (0 ≤ i ∧ i < 4) && slotOk s.1 s.2) := by
  unfold mapOk
  by_cases h : 0 ≤ i ∧ i < 4
  · rw [right_empty h.1 h.2]
  · rw [decide_eq_false h]; rfl
theorem u64R_small {x : Int} (h0 : 0 ≤ x) (h1 : x ≤ 18446744073709551615) : u64R x := ⟨h0, h1⟩
theorem map_empty (w : World) (i x y : Int) (hx : u64R x) (hy : u64R y) :
    Calls Try.prog 73 #[.agg (thC emptyT), .int .i64 i, .agg #[.int .u64 x, .int .u64 y]] w fun e w' => RetLike (if mapOk emptyT emptyL i (x, y) then setSlot emptyT i (x, y) else emptyT) emptyL (if mapOk emptyT emptyL i (x, y) then 0 else 171) w e w' :=
  (map73 w emptyT emptyL i x y (emptyT_at w) emptyT_R rfl hx hy (by decide) (by decide) (by decide) (by decide)).mono fun e w' h => h.like
theorem whereV_slices (t : Th) (a b c d : Sl) (x : Int) : whereV (t.slices a b c d) x = whereV t x := rfl
theorem where_like {t : Th} {p : Tl} {w0 : World} {u : Th} (h : Like t p w0 u) (w : World) (x : Int) : Calls Try.prog 68 #[.agg (thC u), .int .i64 x] w fun e w' => e = .returned (whereV t x) ∧ Below w.heap.size w w' := by
  obtain ⟨a, b, c, d, rfl, _⟩ := h
  exact where68 w _ x

set_option maxHeartbeats 4000000 in
set_option maxRecDepth 100000 in
theorem alive70 (w : World) : Calls Try.prog 70 #[] w fun e w' => e = .returned (.bool true) ∧ Below w.heap.size w w' := by
  have hm : mapOk emptyT emptyL 1 (1, 68) = true := by rw [mapOk_empty]; decide
  have HM : Hid (∀ W, Calls Try.prog 73 #[.agg (thC emptyT), .int .i64 1, .agg #[.int .u64 1, .int .u64 68]] W fun e w' => RetLike (setSlot emptyT 1 (1, 68)) emptyL 0 W e w') := fun W => by
    have := map_empty W 1 1 68 (u64R_small (by decide) (by decide)) (u64R_small (by decide) (by decide))
    rw [hm] at this
    exact this
  have HWV : Hid (whereV (setSlot emptyT 1 (1, 68)) 130 = .tuple #[.agg #[.int .u64 1, .int .u64 68], .int .i64 2, .int .i64 0]) := by show _ = _; rfl
  clear hm
  generalize setSlot emptyT 1 (1, 68) = tt at *
  go_enter Try.func70, Try.ntmps70
  go_wp2_with (first
    | (go_at_call 69
       refine (empty69_e _).mono ?_
       rintro e w1 ⟨rfl, hb1⟩
       have HB1 := hid hb1
       clear hb1)
    | (go_at_call 73
       refine (HM.out w1).mono ?_
       rintro e w2 ⟨u, rfl, hu, hb2⟩
       have HU := hid hu
       have HB2 := hid (HB1.out.trans (hb2.mono HB1.out.size))
       clear hu hb2)
    | (refine wpList_new61 u rfl rfl ?_
       have HB3 := hid (HB2.out.alloc HB2.out.size (.cells (thC u) 61))
       have HK : Hid (Blk (w2.alloc (.cells (thC u) 61)) w2.heap.size 61 (thC u)) := Blk.new w2 61 _
       generalize w2.alloc (.cells (thC u) 61) = w3 at *)
    | (refine wpList_load61 u w2.heap.size rfl HK.out ?_)
    | (go_at_call 68
       refine (where_like HU.out w3 130).mono ?_
       rw [HWV.out]
       rintro e w4 ⟨rfl, hb4⟩
       have HB4 := hid (HB3.out.trans (hb4.mono HB3.out.size))
       clear hb4))
  go_ret
  exact ⟨rfl, HB4.out.alloc HB4.out.size _⟩
end Go.Proofs.Ytndohmimcbmhdaa
