/- gate.Mint. -/
import Derived.Test.YtndohmimcbmhdaaNb1
set_option linter.unusedVariables false
set_option linter.unusedSimpArgs false
namespace Go.Proofs.Ytndohmimcbmhdaa
open Go.RowKit Go.Sort

theorem or_up {a b : Int} (k M : Nat) (hm : M = 2 ^ k) (ha : 0 ≤ a) (hb : 0 ≤ b) (hbm : b < (M : Int)) (hx : a * (M : Int) + b < 18446744073709551616) : bits .or .u64 (a * (M : Int)) b = a * (M : Int) + b := by
  obtain ⟨x, rfl⟩ := Int.eq_ofNat_of_zero_le ha
  obtain ⟨y, rfl⟩ := Int.eq_ofNat_of_zero_le hb
  have e : (x : Int) * (M : Int) = ((x * M : Nat) : Int) := (Int.natCast_mul x M).symm
  rw [e] at hx ⊢
  have hy : y < 2 ^ k := by rw [← hm]; exact Int.ofNat_lt.1 hbm
  have hs : x * M + y < 18446744073709551616 := by have : ((x * M + y : Nat) : Int) < 18446744073709551616 := by rw [Int.natCast_add]; exact hx
                                                   omega
  rw [u64_or_nat _ _ (by omega) (by omega)]
  have := Nat.two_pow_add_eq_or_of_lt hy x
  rw [← hm] at this
  rw [Nat.mul_comm x, ← this, Int.natCast_add]

set_option maxHeartbeats 8000000 in
set_option maxRecDepth 100000 in
theorem mint80s (w : World) (t : Th) (p : Tl) (boot : Int) (S : Nat → Prop) (hS : ThS S w t p) (h : ThAt w t p) (hm : Minty t boot) :
    Calls Try.prog 80 #[.agg (thC t), .int .i64 boot] w fun e w' => RetMintS S (mintO t p boot) w e w' := by
  have mixed : Try.prog.follows .mixedOrders = true := by kernel_rfl
  obtain ⟨q0, q1, q2⟩ := two_blk w (thC t) (thC zeroTh) 61 61
  have HB := hid q0
  have HP0 := hid q1
  have HP1 := hid q2
  have H := hid (ThAt.in_ h q0)
  have hsz : (w.alloc (.cells (thC t) 61)).heap.size = w.heap.size + 1 := by simp
  have HL0 := hid (Nat.le_of_lt q1.lt)
  have HMY := hid hm
  obtain ⟨O, hO⟩ : ∃ O, O = mintO t p boot := ⟨_, rfl⟩
  rw [← hO]
  have HO := hid hO
  obtain ⟨N, hN⟩ : ∃ N, N = mintN t boot := ⟨_, rfl⟩
  have HN := hid hN
  have HNI := hid (mintN_in hm)
  rw [← hN] at HNI
  obtain ⟨C, hC⟩ : ∃ C, C = mintCat t boot := ⟨_, rfl⟩
  have HC := hid hC
  have HC2 : Hid (C = t.id * 8192 + boot * 32 + (N + 1)) := by show _ = _; rw [hC, hN]; rfl
  have HSS := hid (hS.and h.s)
  have hWa := hid ((But.refl nil_ w).below q0)
  clear q0 q1 q2 h hm hO hN hC hS
  by_cases hbt : t.boot = boot
  · have HNE : Hid (N = t.minted) := by show _ = _; rw [HN.out]; unfold mintN; rw [if_pos hbt]
    have hbb : (t.boot != boot) = false := by simpa using hbt
    have HBT := hid hbt
    clear hbt
    by_cases h31 : 31 ≤ N
    · have HOE : Hid (O = ⟨t, p, 0, 182⟩) := by show _ = _; rw [HO.out]; unfold mintO; rw [if_pos (by rw [← HN.out]; exact h31)]
      have hdec : decide (31 ≤ N) = true := decide_eq_true h31
      go_enter Try.func80, Try.ntmps80
      go_wp2_with (first
        | (with_reducible refine wpList_alloc61 ?_; rw [hsz]; generalize (w.alloc (.cells (thC t) 61)).alloc (.cells (thC zeroTh) 61) = wa at *)
        | ((with_reducible refine wpList_load61 t w.heap.size ?_ HP0.out ?_); exact rfl)
        | (go_at_call 91
           with_reducible refine (copy91 _ t p (H.out.at_ HL0.out) (Nat.le_trans HMY.out.z1 (by decide)) (Nat.le_trans HMY.out.z2 (by decide)) (Nat.le_succ_of_le HMY.out.z3) HMY.out.z4).mono ?_
           rintro e W1 ⟨a, b, c, d, rfl, ha, hb, hc, hd, hb1⟩
           have S1 := hid ((But.refl nil_ wa).below hb1)
           have HB1 := hid (HB.out.trans (hb1.mono HB.out.size))
           have HS1 := hid (ThS.fresh (t := t) ha hb hc hd)
           have HN0 := hid (S1.out.blk HP0.out (fun h => h))
           have HN1 := hid (S1.out.blk HP1.out (fun h => h))
           have HT1 := hid (HSS.out.keep (hWa.out.trans S1.out) (fun _ _ h => h))
           have hsa : w.heap.size ≤ wa.heap.size := HB.out.size
           have hs1 : wa.heap.size ≤ W1.heap.size := hb1.size
           have hl1 : w.heap.size + 1 < wa.heap.size := HP1.out.lt
           clear ha hb hc hd hb1)
        | ((with_reducible refine wpList_new61 (t.slices a b c d) ?_ ?_ ?_)
           exact rfl
           exact rfl
           have HB2 := hid (HB1.out.alloc HB1.out.size (.cells (thC (t.slices a b c d)) 61))
           have HG2 : Hid (Blk (W1.alloc (.cells (thC (t.slices a b c d)) 61)) W1.heap.size 61 (thC (t.slices a b c d))) := Blk.new W1 61 _
           have S2 : Hid (But nil_ W1 (W1.alloc (.cells (thC (t.slices a b c d)) 61))) := (But.refl nil_ W1).alloc _
           have hs2 : (W1.alloc (.cells (thC (t.slices a b c d)) 61)).heap.size = W1.heap.size + 1 := by simp
           generalize W1.alloc (.cells (thC (t.slices a b c d)) 61) = W2 at *
           obtain ⟨f0, f14, f15⟩ : W2.cell? ⟨W1.heap.size, 0, none⟩ = some (.int .u64 t.id) ∧ W2.cell? ⟨W1.heap.size, 14, none⟩ = some (.int .i64 N) ∧ W2.cell? ⟨W1.heap.size, 15, none⟩ = some (.int .i64 t.boot) := ⟨(Blk.cell HG2.out 0).trans rfl, by rw [HNE.out]; exact (Blk.cell HG2.out 14).trans rfl, (Blk.cell HG2.out 15).trans rfl⟩
           have HGb : Hid (Blk W2 W1.heap.size 61 (thC { t.slices a b c d with minted := N, boot := boot })) := by
             show Blk _ _ _ _
             rw [HNE.out, ← HBT.out]
             exact HG2.out
           have SB : Hid (But (fun k => k = W1.heap.size) W1 W2) := S2.out.into (fun _ x => x.elim))
        | ((with_reducible refine wpList_load61 t w.heap.size ?_ (SB.out.blk HN0.out (fun e => by have := HN0.out.lt; have : w.heap.size = W1.heap.size := e; omega)) ?_); exact rfl)
        | ((with_reducible refine wpList_store61 t zeroTh (w.heap.size + 1) ?_ ?_ (SB.out.blk HN1.out (fun e => by have : w.heap.size + 1 = W1.heap.size := e; omega)) ?_); exact rfl; exact rfl; intro w9 hb9 hk9)
      )
      have SX : Hid (But (fun k => k = W1.heap.size ∨ k = w.heap.size + 1) W1 W2) := SB.out.into fun k e => .inl e
      have hX := SX.out.trans (hb9.into (D' := fun k => k = W1.heap.size ∨ k = w.heap.size + 1) fun k e => .inr e)
      have hs9 := hX.size
      refine bodyPost_ret (th_run3 hk9 rfl _ rfl rfl rfl) rfl ⟨t.l1, t.l2, t.links, t.data, by rw [HOE.out]; rfl, by rw [HOE.out]; exact (HT1.out.keep hX (fun j hj e => by have := hj.2; omega)).mono fun j hj => .inl hj.1, hX.done HB1.out (fun k e => by omega) (by omega)⟩
    · have hlt31 : N < 31 := by omega
      have hdec : decide (31 ≤ N) = false := decide_eq_false h31
      have hn0 := HNI.out.1
      have hw1 : wrap64 (N + 1) = N + 1 := by unfold wrap64; omega
      have i0 := HMY.out.id0
      have i1 := HMY.out.id1
      have b0 := HMY.out.b0
      have b1 := HMY.out.b1
      have e1 : IntKind.u64.wrap (t.id * 8192) = t.id * 8192 := wrap_u64_in (by omega) (by omega)
      have e2 : IntKind.u64.wrap boot = boot := wrap_u64_in (by omega) (by omega)
      have e3 : IntKind.u64.wrap (boot * 32) = boot * 32 := wrap_u64_in (by omega) (by omega)
      have e4 : IntKind.u64.wrap (N + 1) = N + 1 := wrap_u64_in (by omega) (by omega)
      have e5 : bits .or .u64 (t.id * 8192) (boot * 32) = t.id * 8192 + boot * 32 := or_up 13 8192 (by decide) (by omega) (by omega) (by omega) (by omega)
      have e6 : bits .or .u64 (t.id * 8192 + boot * 32) (N + 1) = C := by
        have : bits .or .u64 ((t.id * 256 + boot) * 32) (N + 1) = (t.id * 256 + boot) * 32 + (N + 1) := or_up (a := t.id * 256 + boot) (b := N + 1) 5 32 (by decide) (by omega) (by omega) (by omega) (by omega)
        rw [show (t.id * 256 + boot) * 32 = t.id * 8192 + boot * 32 by omega] at this
        rw [this, HC2.out]
      have HLE : Hid (O = bif rightB t.d1 (formL t.d1 ((C, 0) :: p.l1)) && rightB t.d2 (formL t.d2 ((C, 4) :: p.l2)) then ⟨{ t with boot := boot, minted := N + 1 }, { p with l1 := formL t.d1 ((C, 0) :: p.l1), l2 := formL t.d2 ((C, 4) :: p.l2) }, C, 0⟩ else ⟨t, p, 0, 91⟩) := by
        show _ = _
        rw [HO.out]
        unfold mintO mintL mintC
        rw [if_neg (by rw [← HN.out]; exact h31), ← HC.out, ← HN.out]
      go_enter Try.func80, Try.ntmps80
      go_wp2_with (first
        | (with_reducible refine wpList_alloc61 ?_; rw [hsz]; generalize (w.alloc (.cells (thC t) 61)).alloc (.cells (thC zeroTh) 61) = wa at *)
        | ((with_reducible refine wpList_load61 t w.heap.size ?_ HP0.out ?_); exact rfl)
        | (go_at_call 91
           with_reducible refine (copy91 _ t p (H.out.at_ HL0.out) (Nat.le_trans HMY.out.z1 (by decide)) (Nat.le_trans HMY.out.z2 (by decide)) (Nat.le_succ_of_le HMY.out.z3) HMY.out.z4).mono ?_
           rintro e W1 ⟨a, b, c, d, rfl, ha, hb, hc, hd, hb1⟩
           have S1 := hid ((But.refl nil_ wa).below hb1)
           have HB1 := hid (HB.out.trans (hb1.mono HB.out.size))
           have HS1 := hid (ThS.fresh (t := t) ha hb hc hd)
           have HN0 := hid (S1.out.blk HP0.out (fun h => h))
           have HN1 := hid (S1.out.blk HP1.out (fun h => h))
           have HT1 := hid (HSS.out.keep (hWa.out.trans S1.out) (fun _ _ h => h))
           have hsa : w.heap.size ≤ wa.heap.size := HB.out.size
           have hs1 : wa.heap.size ≤ W1.heap.size := hb1.size
           have hl1 : w.heap.size + 1 < wa.heap.size := HP1.out.lt
           clear ha hb hc hd hb1)
        | ((with_reducible refine wpList_new61 (t.slices a b c d) ?_ ?_ ?_)
           exact rfl
           exact rfl
           have HB2 := hid (HB1.out.alloc HB1.out.size (.cells (thC (t.slices a b c d)) 61))
           have HG2 : Hid (Blk (W1.alloc (.cells (thC (t.slices a b c d)) 61)) W1.heap.size 61 (thC (t.slices a b c d))) := Blk.new W1 61 _
           have S2 : Hid (But nil_ W1 (W1.alloc (.cells (thC (t.slices a b c d)) 61))) := (But.refl nil_ W1).alloc _
           have hs2 : (W1.alloc (.cells (thC (t.slices a b c d)) 61)).heap.size = W1.heap.size + 1 := by simp
           generalize W1.alloc (.cells (thC (t.slices a b c d)) 61) = W2 at *
           obtain ⟨f0, f14, f15⟩ : W2.cell? ⟨W1.heap.size, 0, none⟩ = some (.int .u64 t.id) ∧ W2.cell? ⟨W1.heap.size, 14, none⟩ = some (.int .i64 N) ∧ W2.cell? ⟨W1.heap.size, 15, none⟩ = some (.int .i64 t.boot) := ⟨(Blk.cell HG2.out 0).trans rfl, by rw [HNE.out]; exact (Blk.cell HG2.out 14).trans rfl, (Blk.cell HG2.out 15).trans rfl⟩
           have HGb : Hid (Blk W2 W1.heap.size 61 (thC { t.slices a b c d with minted := N, boot := boot })) := by
             show Blk _ _ _ _
             rw [HNE.out, ← HBT.out]
             exact HG2.out
           have SB : Hid (But (fun k => k = W1.heap.size) W1 W2) := S2.out.into (fun _ x => x.elim))
        | ((with_reducible refine wpList_put61 { t.slices a b c d with minted := N, boot := boot } { t.slices a b c d with minted := N + 1, boot := boot } W1.heap.size 14 (.int .i64 (N + 1)) [.int .i64 (N + 1)] ?_ ?_ HGb.out ?_ ?_ ?_ ?_ ?_ ?_)
           · exact rfl
           · exact rfl
           · exact rfl
           · exact size3
           · exact Nat.le_of_ble_eq_true rfl
           · exact one_of rfl
           · exact rfl
           intro W3 hb3 hk3
           have HG3 := hid hk3
           have S3 := hid (SB.out.trans hb3)
           have hs3 : W2.heap.size ≤ W3.heap.size := hb3.size
           clear hb3 hk3 f0 f14 f15
           obtain ⟨f0, f14⟩ : W3.cell? ⟨W1.heap.size, 0, none⟩ = some (.int .u64 t.id) ∧ W3.cell? ⟨W1.heap.size, 14, none⟩ = some (.int .i64 (N + 1)) := ⟨(Blk.cell HG3.out 0).trans rfl, (Blk.cell HG3.out 14).trans rfl⟩))
      clear f0 f14 e1 e2 e3 e4 e5 e6 hw1 hdec hbb
      have hg3 : W1.heap.size < W3.heap.size := HG3.out.lt
      have hD : ∀ k, at_ W1.heap.size k → w.heap.size ≤ k := fun k e => by have : k = _ := e; omega
      have hD2 : ∀ k, at_ W1.heap.size k → k < W3.heap.size := fun k e => by have : k = _ := e; omega
      have HS3 := hid (HS1.out.keep S3.out (fun j hj e => by have : j = W1.heap.size := e; omega))
      have HM3 : Hid (∀ W, But (at_ W1.heap.size) W3 W → ThAt W (t.slices a b c d) p) := fun W hW => (HS3.out.keep hW (fun j hj e => by have : j = W1.heap.size := e; omega)).at_
      have HZ1 : Hid (a.n + 1 ≤ 8796093022208 ∧ b.n + 1 ≤ 8796093022208) := by
        have h1 : p.l1.length = a.n := HS3.out.at_.c1.len
        have h2 : p.l1.length = t.l1.n := H.out.c1.len
        have h3 : p.l2.length = b.n := HS3.out.at_.c2.len
        have h4 : p.l2.length = t.l2.n := H.out.c2.len
        have := HMY.out.z1
        have := HMY.out.z2
        exact ⟨by omega, by omega⟩
      have HF : Hid (∀ W, But nil_ W3 W → (W.cell? ⟨W1.heap.size, 2, none⟩ = some (.int .i64 t.d1) ∧ W.cell? ⟨W1.heap.size, 3, none⟩ = some (.slice a.a a.n a.c)) ∧ (W.cell? ⟨W1.heap.size, 4, none⟩ = some (.int .i64 t.d2) ∧ W.cell? ⟨W1.heap.size, 5, none⟩ = some (.slice b.a b.n b.c))) := fun W hW => by
        have r := Blk.cells26 (hW.blk HG3.out (fun h => h))
        exact ⟨r.1, r.2.1⟩
      generalize hL1 : formL t.d1 ((C, 0) :: p.l1) = L1 at *
      generalize hL2 : formL t.d2 ((C, 4) :: p.l2) = L2 at *
      have HS49 : Hid (∀ W, But (at_ W1.heap.size) W3 W → Calls Try.prog 49 #[.agg #[.int .i64 t.d1, .slice a.a a.n a.c], .int .u64 C, .int .i64 0] W fun e w' => RetOwn t.d1 L1 W e w') := fun W hW => by rw [← hL1]; exact (set49 W t.d1 C 0 a.a a.n a.c p.l1 (HM3.out W hW).c1 HZ1.out.1).mono fun _ _ h => made_own h
      have HS49' : Hid (∀ W, But (at_ W1.heap.size) W3 W → Calls Try.prog 49 #[.agg #[.int .i64 t.d2, .slice b.a b.n b.c], .int .u64 C, .int .i64 4] W fun e w' => RetOwn t.d2 L2 W e w') := fun W hW => by rw [← hL2]; exact (set49 W t.d2 C 4 b.a b.n b.c p.l2 (HM3.out W hW).c2 HZ1.out.2).mono fun _ _ h => made_own h
      clear hL1 hL2
      refine wp_region_toldw 12 (at_ W1.heap.size) mixed (by kernel_rfl) ?_
      simp only [List.take_succ_cons, List.take_zero, List.drop_succ_cons, List.drop_zero]
      repeat (refine told_early (v := ?_) rfl (fun _ => rfl) (fun vs W hW => ?_) ?_; rotate_left; (focus (have hf := HF.out W hW; clear hW; go_simp; exact loose_early)); simp only [Act.put, List.setIfInBounds_toArray, List.set_cons_zero, List.set_cons_succ, List.nil_append, List.cons_append, Nat.reduceAdd, Leaves.at])
      refine told_rel (LabF W3.heap.size t.d1 L1) (LabF.stable hD2) (fun _ => rfl) (fun vs W hW hd => ?_) ?_
      · clear hd; go_simp; exact loose_callR (RetOwn.labF (HS49.out W hW) hW.size)
      simp only [Act.put, List.setIfInBounds_toArray, List.set_cons_zero, List.set_cons_succ, List.nil_append, List.cons_append, Nat.reduceAdd, Leaves.at]
      iterate 2 (refine told_early (v := ?_) rfl (fun _ => rfl) (fun vs W hW => ?_) ?_; rotate_left; (focus (have hf := HF.out W hW; clear hW; go_simp; exact loose_early)); simp only [Act.put, List.setIfInBounds_toArray, List.set_cons_zero, List.set_cons_succ, List.nil_append, List.cons_append, Nat.reduceAdd, Leaves.at])
      repeat (refine told_val (v := ?_) (fun _ => rfl) (fun vs W hW => ?_) ?_; rotate_left; (focus (clear hW; go_simp; exact loose_val)); simp only [Act.put, List.setIfInBounds_toArray, List.set_cons_zero, List.set_cons_succ, List.nil_append, List.cons_append, Nat.reduceAdd, Leaves.at])
      refine told_rel (LabF W3.heap.size t.d2 L2) (LabF.stable hD2) (fun _ => rfl) (fun vs W hW hd => ?_) ?_
      · clear hd; go_simp; exact loose_callR (RetOwn.labF (HS49'.out W hW) hW.size)
      simp only [Act.put, List.setIfInBounds_toArray, List.set_cons_zero, List.set_cons_succ, List.nil_append, List.cons_append, Nat.reduceAdd, Leaves.at]
      repeat (refine told_val (v := ?_) (fun _ => rfl) (fun vs W hW => ?_) ?_; rotate_left; (focus (clear hW; go_simp; exact loose_val)); simp only [Act.put, List.setIfInBounds_toArray, List.set_cons_zero, List.set_cons_succ, List.nil_append, List.cons_append, Nat.reduceAdd, Leaves.at])
      refine told_write0 (C := (fun W => ∃ s : Sl, Blk W W1.heap.size 61 (thC { t.slices a b c d with minted := N + 1, boot := boot, l1 := s }) ∧ CatsF W3.heap.size L1 W s)) (hs := (fun _ _ _ hb ⟨b, hk, h⟩ => ⟨b, hb.blk hk (fun x => x), h.keep hb (fun _ x => x.elim)⟩)) (hno := by kernel_rfl) (h0 := rfl) (hw := fun _ => rfl) (hr := fun vs W hW hd => ?_) ?_
      · obtain ⟨s, e, hs⟩ := hd ⟨3, .data⟩ (by simp) rfl _ rfl (fun h => by cases h); clear hd; exact loose_store (v := .agg #[.int .i64 t.d1, .slice s.a s.n s.c]) (vs := [.int .i64 t.d1, .slice s.a s.n s.c]) (cur := ({ t.slices a b c d with minted := N + 1, boot := boot } : Th).cells) rfl rfl e (hW.blk HG3.out (fun h => h)) rfl size26 (Nat.le_of_ble_eq_true rfl) (one_label _ _ _ _) rfl (fun W' hb hk => ⟨s, hk, hs.keep hb hD2⟩)
      simp only [Act.put, List.setIfInBounds_toArray, List.set_cons_zero, List.set_cons_succ, List.nil_append, List.cons_append, Nat.reduceAdd, Leaves.at]
      repeat (refine told_val (v := ?_) (fun _ => rfl) (fun vs W hW => ?_) ?_; rotate_left; (focus (clear hW; go_simp; exact loose_val)); simp only [Act.put, List.setIfInBounds_toArray, List.set_cons_zero, List.set_cons_succ, List.nil_append, List.cons_append, Nat.reduceAdd, Leaves.at])
      refine told_write1 (j := 9) (C0 := _) (C := (fun W => ∃ s s2 : Sl, Blk W W1.heap.size 61 (thC { t.slices a b c d with minted := N + 1, boot := boot, l1 := s, l2 := s2 }) ∧ CatsF W3.heap.size L1 W s ∧ CatsF W3.heap.size L2 W s2)) (hj := rfl) (h1 := rfl) (hs := (fun _ _ _ hb ⟨b, b2, hk, h, h2⟩ => ⟨b, b2, hb.blk hk (fun x => x), h.keep hb (fun _ x => x.elim), h2.keep hb (fun _ x => x.elim)⟩)) (hno := by kernel_rfl) (hw := fun _ => rfl) (hr := fun vs W hW hC hd => ?_) ?_
      · obtain ⟨s0, hk0, hs0⟩ := hC; obtain ⟨s, e, hs⟩ := hd ⟨7, .data⟩ (by simp) rfl _ rfl (fun h => by cases h); clear hd; exact loose_store (v := .agg #[.int .i64 t.d2, .slice s.a s.n s.c]) (vs := [.int .i64 t.d2, .slice s.a s.n s.c]) (cur := ({ t.slices a b c d with minted := N + 1, boot := boot, l1 := s0 } : Th).cells) rfl rfl e hk0 rfl size26 (Nat.le_of_ble_eq_true rfl) (one_label _ _ _ _) rfl (fun W' hb hk => ⟨s0, s, hk, hs0.keep hb hD2, hs.keep hb hD2⟩)
      simp only [Act.put, List.setIfInBounds_toArray, List.set_cons_zero, List.set_cons_succ, List.nil_append, List.cons_append, Nat.reduceAdd, Leaves.at]
      refine told_nil ?_
      intro vs W4 hW4 hok hap hwr
      have hC := hwr 11 _ rfl (noWr_of rfl)
      clear hap hwr
      dsimp only
      obtain ⟨s, s2, hk4, hA4, hB4⟩ := hC
      have HG4 := hid hk4
      have S4 : Hid (But (fun k => k = W1.heap.size) W1 W4) := S3.out.trans hW4
      have HA4 := hid hA4
      have HB4 := hid hB4
      have hs4 : W3.heap.size ≤ W4.heap.size := hW4.size
      clear hok hW4 hk4 hA4 hB4 HF HS49 HS49' HM3
      obtain ⟨r1, hr1⟩ : ∃ z, z = rightB t.d1 L1 := ⟨_, rfl⟩
      obtain ⟨r2, hr2⟩ : ∃ z, z = rightB t.d2 L2 := ⟨_, rfl⟩
      rw [← hr1, ← hr2] at HLE
      have HR1 : Hid (∀ W, But nil_ W4 W → Calls Try.prog 51 #[.agg #[.int .i64 t.d1, .slice s.a s.n s.c]] W fun e w' => e = .returned (.bool r1) ∧ Below W.heap.size W w') := fun W hW => by rw [hr1]; exact right51 W _ _ _ _ _ (HA4.out.1.since_ hW)
      have HR2 : Hid (∀ W, But nil_ W4 W → Calls Try.prog 51 #[.agg #[.int .i64 t.d2, .slice s2.a s2.n s2.c]] W fun e w' => e = .returned (.bool r2) ∧ Below W.heap.size W w') := fun W hW => by rw [hr2]; exact right51 W _ _ _ _ _ (HB4.out.1.since_ hW)
      obtain ⟨c1, hc1⟩ : ∃ z, z = !r1 := ⟨_, rfl⟩
      have HC1 := hid hc1
      clear hr1 hr2 hc1
      go_wp2_with (refine wp_list_told 10 10 nil_ rfl (by decide) ?_)
      have HF : Hid (∀ W, But nil_ W4 W → (W.cell? ⟨W1.heap.size, 2, none⟩ = some (.int .i64 t.d1) ∧ W.cell? ⟨W1.heap.size, 3, none⟩ = some (.slice s.a s.n s.c)) ∧ (W.cell? ⟨W1.heap.size, 4, none⟩ = some (.int .i64 t.d2) ∧ W.cell? ⟨W1.heap.size, 5, none⟩ = some (.slice s2.a s2.n s2.c))) := fun W hW => by
        have r := Blk.cells26 (hW.blk HG4.out (fun h => h))
        exact ⟨r.1, r.2.1⟩
      try simp only [List.take_succ_cons, List.take_zero, List.drop_succ_cons, List.drop_zero]
      repeat (refine told_val (v := ?_) (fun _ => rfl) (fun vs W hW => ?_) ?_; rotate_left; (focus (have hf := HF.out W hW; clear hW; go_simp; exact loose_val)); simp only [Act.put, List.setIfInBounds_toArray, List.set_cons_zero, List.set_cons_succ, List.nil_append, List.cons_append, Nat.reduceAdd, Leaves.at])
      refine told_val (v := .bool r1) (fun _ => rfl) (fun vs W hW => ?_) ?_
      · go_simp
        exact loose_call (HR1.out W hW)
      simp only [Act.put, List.setIfInBounds_toArray, List.set_cons_zero, List.set_cons_succ, List.nil_append, List.cons_append, Nat.reduceAdd, Leaves.at]
      refine told_val (v := .bool c1) (hw := fun _ => rfl) (hr := fun vs W hW => by rw [HC1.out]; clear hW; go_simp; exact loose_val) ?_
      simp only [Act.put, List.setIfInBounds_toArray, List.set_cons_zero, List.set_cons_succ, List.nil_append, List.cons_append, Nat.reduceAdd, Leaves.at]
      repeat (refine told_val (v := ?_) (fun _ => rfl) (fun vs W hW => ?_) ?_; rotate_left; (focus (have hf := HF.out W hW; clear hW; go_simp; exact loose_val)); simp only [Act.put, List.setIfInBounds_toArray, List.set_cons_zero, List.set_cons_succ, List.nil_append, List.cons_append, Nat.reduceAdd, Leaves.at])
      repeat (refine told_not (b := c1) (v := ?_) (fun _ => Bool.casesOn c1 rfl rfl) (fun hb vs W hW => ?_) ?_; rotate_left; (focus (have hf := HF.out W hW; clear hW; (try simp only [hb, cond_true, cond_false]); go_simp; exact loose_val)); simp only [Act.put, List.setIfInBounds_toArray, List.set_cons_zero, List.set_cons_succ, List.nil_append, List.cons_append, Nat.reduceAdd, Leaves.at])
      refine told_not (b := c1) (v := .bool r2) (fun _ => Bool.casesOn c1 rfl rfl) (fun hb vs W hW => ?_) ?_
      · try simp only [hb, cond_true, cond_false]
        go_simp
        exact loose_call (HR2.out W hW)
      simp only [Act.put, List.setIfInBounds_toArray, List.set_cons_zero, List.set_cons_succ, List.nil_append, List.cons_append, Nat.reduceAdd, Leaves.at]
      repeat (refine told_not (b := c1) (v := ?_) (fun _ => Bool.casesOn c1 rfl rfl) (fun hb vs W hW => ?_) ?_; rotate_left; (focus (have hf := HF.out W hW; clear hW; (try simp only [hb, cond_true, cond_false]); go_simp; exact loose_val)); simp only [Act.put, List.setIfInBounds_toArray, List.set_cons_zero, List.set_cons_succ, List.nil_append, List.cons_append, Nat.reduceAdd, Leaves.at])
      refine told_val (v := .bool (c1 || !r2)) (hw := fun _ => rfl) (hr := fun vs W hW => by clear hW; cases c1 <;> (go_simp; exact loose_val)) ?_
      simp only [Act.put, List.setIfInBounds_toArray, List.set_cons_zero, List.set_cons_succ, List.nil_append, List.cons_append, Nat.reduceAdd, Leaves.at]
      refine told_nil ?_
      intro vs W5 hW5 hok hap
      clear hap
      dsimp only
      have S5 : Hid (But (fun k => k = W1.heap.size) W1 W5) := S4.out.trans (hW5.into (fun _ x => x.elim))
      have HG5 := hid (hW5.blk HG4.out (fun h => h))
      have HA5 := hid (HA4.out.keep hW5 (fun _ x => x.elim))
      have HB5 := hid (HB4.out.keep hW5 (fun _ x => x.elim))
      have hs5 : W4.heap.size ≤ W5.heap.size := hW5.size
      clear hok hW5 HF HR1 HR2
      have HM0 := hid (S5.out.blk HN0.out (fun e => by have := HN0.out.lt; have : w.heap.size = W1.heap.size := e; omega))
      have HM1 := hid (S5.out.blk HN1.out (fun e => by have : w.heap.size + 1 = W1.heap.size := e; omega))
      generalize hq : (c1 || !r2) = q at *
      have HQ := hid hq
      clear hq
      cases q with
      | true =>
        have HOE : Hid (O = ⟨t, p, 0, 91⟩) := by
          show _ = _
          rw [HLE.out]
          have : (r1 && r2) = false := by have := HQ.out; rw [HC1.out] at this; revert this; cases r1 <;> cases r2 <;> simp
          rw [this]; rfl
        go_wp2_with (first
          | ((with_reducible refine wpList_load61 t w.heap.size ?_ HM0.out ?_); exact rfl)
          | ((with_reducible refine wpList_store61 t zeroTh (w.heap.size + 1) ?_ ?_ HM1.out ?_); exact rfl; exact rfl; intro w9 hb9 hk9))
        have SX : Hid (But (fun k => k = W1.heap.size ∨ k = w.heap.size + 1) W1 W5) := S5.out.into fun k e => .inl e

        have hX := SX.out.trans (hb9.into (D' := fun k => k = W1.heap.size ∨ k = w.heap.size + 1) fun k e => .inr e)
        have hs9 := hX.size
        refine bodyPost_ret (th_run3 hk9 rfl _ rfl rfl rfl) rfl ⟨t.l1, t.l2, t.links, t.data, by rw [HOE.out]; rfl, by rw [HOE.out]; exact (HT1.out.keep hX (fun j hj e => by have := hj.2; omega)).mono fun j hj => .inl hj.1, hX.done HB1.out (fun k e => by omega) (by omega)⟩
      | false =>
        have HOE : Hid (O = ⟨{ t with boot := boot, minted := N + 1 }, { p with l1 := L1, l2 := L2 }, C, 0⟩) := by
          show _ = _
          rw [HLE.out]
          have : (r1 && r2) = true := by have := HQ.out; rw [HC1.out] at this; revert this; cases r1 <;> cases r2 <;> simp
          rw [this]; rfl
        go_wp2_with (first
          | ((with_reducible refine wpList_load61 { t.slices a b c d with minted := N + 1, boot := boot, l1 := s, l2 := s2 } W1.heap.size ?_ HG5.out ?_); exact rfl)
          | ((with_reducible refine wpList_store61 { t.slices a b c d with minted := N + 1, boot := boot, l1 := s, l2 := s2 } zeroTh (w.heap.size + 1) ?_ ?_ HM1.out ?_); exact rfl; exact rfl; intro w9 hb9 hk9))
        have hX := (S5.out.into (D' := fun k => k = W1.heap.size ∨ k = w.heap.size + 1) fun k e => .inl e).trans (hb9.into (D' := fun k => k = W1.heap.size ∨ k = w.heap.size + 1) fun k e => .inr e)
        have hs9 := hX.size
        have hK := HS1.out.keep hX (fun j hj e => by omega)
        refine bodyPost_ret (th_run3 hk9 rfl _ rfl rfl rfl) rfl ⟨s, s2, c, d, by rw [HOE.out]; rfl, by rw [HOE.out]; exact ⟨⟨(HA5.out.keep hb9 (fun k e => by omega)).1, (HB5.out.keep hb9 (fun k e => by omega)).1, hK.at_.lk, hK.at_.dt⟩, (HA5.out.keep hb9 (fun k e => by omega)).sl.mono (fun j hj => .inr ⟨by omega, by omega⟩), (HB5.out.keep hb9 (fun k e => by omega)).sl.mono (fun j hj => .inr ⟨by omega, by omega⟩), hK.b3.mono (fun j hj => .inr ⟨by omega, by omega⟩), hK.b4.mono (fun j hj => .inr ⟨by omega, by omega⟩)⟩, hX.done HB1.out (fun k e => by omega) (by omega)⟩
  · have HNE : Hid (N = 0) := by show _ = _; rw [HN.out]; unfold mintN; rw [if_neg hbt]
    have hbb : (t.boot != boot) = true := by simpa using hbt
    have HBT := hid hbt
    clear hbt
    by_cases h31 : 31 ≤ N
    · have HOE : Hid (O = ⟨t, p, 0, 182⟩) := by show _ = _; rw [HO.out]; unfold mintO; rw [if_pos (by rw [← HN.out]; exact h31)]
      have hdec : decide (31 ≤ N) = true := decide_eq_true h31
      go_enter Try.func80, Try.ntmps80
      go_wp2_with (first
        | (with_reducible refine wpList_alloc61 ?_; rw [hsz]; generalize (w.alloc (.cells (thC t) 61)).alloc (.cells (thC zeroTh) 61) = wa at *)
        | ((with_reducible refine wpList_load61 t w.heap.size ?_ HP0.out ?_); exact rfl)
        | (go_at_call 91
           with_reducible refine (copy91 _ t p (H.out.at_ HL0.out) (Nat.le_trans HMY.out.z1 (by decide)) (Nat.le_trans HMY.out.z2 (by decide)) (Nat.le_succ_of_le HMY.out.z3) HMY.out.z4).mono ?_
           rintro e W1 ⟨a, b, c, d, rfl, ha, hb, hc, hd, hb1⟩
           have S1 := hid ((But.refl nil_ wa).below hb1)
           have HB1 := hid (HB.out.trans (hb1.mono HB.out.size))
           have HS1 := hid (ThS.fresh (t := t) ha hb hc hd)
           have HN0 := hid (S1.out.blk HP0.out (fun h => h))
           have HN1 := hid (S1.out.blk HP1.out (fun h => h))
           have HT1 := hid (HSS.out.keep (hWa.out.trans S1.out) (fun _ _ h => h))
           have hsa : w.heap.size ≤ wa.heap.size := HB.out.size
           have hs1 : wa.heap.size ≤ W1.heap.size := hb1.size
           have hl1 : w.heap.size + 1 < wa.heap.size := HP1.out.lt
           clear ha hb hc hd hb1)
        | ((with_reducible refine wpList_new61 (t.slices a b c d) ?_ ?_ ?_)
           exact rfl
           exact rfl
           have HB2 := hid (HB1.out.alloc HB1.out.size (.cells (thC (t.slices a b c d)) 61))
           have HG2 : Hid (Blk (W1.alloc (.cells (thC (t.slices a b c d)) 61)) W1.heap.size 61 (thC (t.slices a b c d))) := Blk.new W1 61 _
           have S2 : Hid (But nil_ W1 (W1.alloc (.cells (thC (t.slices a b c d)) 61))) := (But.refl nil_ W1).alloc _
           have hs2 : (W1.alloc (.cells (thC (t.slices a b c d)) 61)).heap.size = W1.heap.size + 1 := by simp
           generalize W1.alloc (.cells (thC (t.slices a b c d)) 61) = W2 at *
           obtain ⟨f0, f14, f15⟩ : W2.cell? ⟨W1.heap.size, 0, none⟩ = some (.int .u64 t.id) ∧ W2.cell? ⟨W1.heap.size, 14, none⟩ = some (.int .i64 t.minted) ∧ W2.cell? ⟨W1.heap.size, 15, none⟩ = some (.int .i64 t.boot) := ⟨(Blk.cell HG2.out 0).trans rfl, (Blk.cell HG2.out 14).trans rfl, (Blk.cell HG2.out 15).trans rfl⟩)
        | ((with_reducible refine wpList_put61 { t.slices a b c d with minted := 0 } { t.slices a b c d with minted := 0, boot := boot } W1.heap.size 15 (.int .i64 boot) [.int .i64 boot] ?_ ?_ HGa.out ?_ ?_ ?_ ?_ ?_ ?_)
           · exact rfl
           · exact rfl
           · exact rfl
           · exact size3
           · exact Nat.le_of_ble_eq_true rfl
           · exact one_of rfl
           · exact rfl
           intro Wb hbb2 hkb
           have HGb : Hid (Blk Wb W1.heap.size 61 (thC { t.slices a b c d with minted := N, boot := boot })) := by show Blk _ _ _ _; rw [HNE.out]; exact hkb
           have SB := hid ((S2.out.into (fun _ x => x.elim)).trans (SA.out.trans hbb2))
           clear hbb2 hkb
           obtain ⟨f0, f14⟩ : Wb.cell? ⟨W1.heap.size, 0, none⟩ = some (.int .u64 t.id) ∧ Wb.cell? ⟨W1.heap.size, 14, none⟩ = some (.int .i64 N) := ⟨(Blk.cell HGb.out 0).trans rfl, (Blk.cell HGb.out 14).trans rfl⟩)
        | ((with_reducible refine wpList_put61 (t.slices a b c d) { t.slices a b c d with minted := 0 } W1.heap.size 14 (.int .i64 0) [.int .i64 0] ?_ ?_ HG2.out ?_ ?_ ?_ ?_ ?_ ?_)
           · exact rfl
           · exact rfl
           · exact rfl
           · exact size3
           · exact Nat.le_of_ble_eq_true rfl
           · exact one_of rfl
           · exact rfl
           intro Wa hba hka
           have HGa := hid hka
           have SA := hid hba
           clear hba hka f0 f14 f15)
        | ((with_reducible refine wpList_load61 t w.heap.size ?_ (SB.out.blk HN0.out (fun e => by have := HN0.out.lt; have : w.heap.size = W1.heap.size := e; omega)) ?_); exact rfl)
        | ((with_reducible refine wpList_store61 t zeroTh (w.heap.size + 1) ?_ ?_ (SB.out.blk HN1.out (fun e => by have : w.heap.size + 1 = W1.heap.size := e; omega)) ?_); exact rfl; exact rfl; intro w9 hb9 hk9)
      )
      have SX : Hid (But (fun k => k = W1.heap.size ∨ k = w.heap.size + 1) W1 Wb) := SB.out.into fun k e => .inl e
      have hX := SX.out.trans (hb9.into (D' := fun k => k = W1.heap.size ∨ k = w.heap.size + 1) fun k e => .inr e)
      have hs9 := hX.size
      refine bodyPost_ret (th_run3 hk9 rfl _ rfl rfl rfl) rfl ⟨t.l1, t.l2, t.links, t.data, by rw [HOE.out]; rfl, by rw [HOE.out]; exact (HT1.out.keep hX (fun j hj e => by have := hj.2; omega)).mono fun j hj => .inl hj.1, hX.done HB1.out (fun k e => by omega) (by omega)⟩
    · have hlt31 : N < 31 := by omega
      have hdec : decide (31 ≤ N) = false := decide_eq_false h31
      have hn0 := HNI.out.1
      have hw1 : wrap64 (N + 1) = N + 1 := by unfold wrap64; omega
      have i0 := HMY.out.id0
      have i1 := HMY.out.id1
      have b0 := HMY.out.b0
      have b1 := HMY.out.b1
      have e1 : IntKind.u64.wrap (t.id * 8192) = t.id * 8192 := wrap_u64_in (by omega) (by omega)
      have e2 : IntKind.u64.wrap boot = boot := wrap_u64_in (by omega) (by omega)
      have e3 : IntKind.u64.wrap (boot * 32) = boot * 32 := wrap_u64_in (by omega) (by omega)
      have e4 : IntKind.u64.wrap (N + 1) = N + 1 := wrap_u64_in (by omega) (by omega)
      have e5 : bits .or .u64 (t.id * 8192) (boot * 32) = t.id * 8192 + boot * 32 := or_up 13 8192 (by decide) (by omega) (by omega) (by omega) (by omega)
      have e6 : bits .or .u64 (t.id * 8192 + boot * 32) (N + 1) = C := by
        have : bits .or .u64 ((t.id * 256 + boot) * 32) (N + 1) = (t.id * 256 + boot) * 32 + (N + 1) := or_up (a := t.id * 256 + boot) (b := N + 1) 5 32 (by decide) (by omega) (by omega) (by omega) (by omega)
        rw [show (t.id * 256 + boot) * 32 = t.id * 8192 + boot * 32 by omega] at this
        rw [this, HC2.out]
      have HLE : Hid (O = bif rightB t.d1 (formL t.d1 ((C, 0) :: p.l1)) && rightB t.d2 (formL t.d2 ((C, 4) :: p.l2)) then ⟨{ t with boot := boot, minted := N + 1 }, { p with l1 := formL t.d1 ((C, 0) :: p.l1), l2 := formL t.d2 ((C, 4) :: p.l2) }, C, 0⟩ else ⟨t, p, 0, 91⟩) := by
        show _ = _
        rw [HO.out]
        unfold mintO mintL mintC
        rw [if_neg (by rw [← HN.out]; exact h31), ← HC.out, ← HN.out]
      go_enter Try.func80, Try.ntmps80
      go_wp2_with (first
        | (with_reducible refine wpList_alloc61 ?_; rw [hsz]; generalize (w.alloc (.cells (thC t) 61)).alloc (.cells (thC zeroTh) 61) = wa at *)
        | ((with_reducible refine wpList_load61 t w.heap.size ?_ HP0.out ?_); exact rfl)
        | (go_at_call 91
           with_reducible refine (copy91 _ t p (H.out.at_ HL0.out) (Nat.le_trans HMY.out.z1 (by decide)) (Nat.le_trans HMY.out.z2 (by decide)) (Nat.le_succ_of_le HMY.out.z3) HMY.out.z4).mono ?_
           rintro e W1 ⟨a, b, c, d, rfl, ha, hb, hc, hd, hb1⟩
           have S1 := hid ((But.refl nil_ wa).below hb1)
           have HB1 := hid (HB.out.trans (hb1.mono HB.out.size))
           have HS1 := hid (ThS.fresh (t := t) ha hb hc hd)
           have HN0 := hid (S1.out.blk HP0.out (fun h => h))
           have HN1 := hid (S1.out.blk HP1.out (fun h => h))
           have HT1 := hid (HSS.out.keep (hWa.out.trans S1.out) (fun _ _ h => h))
           have hsa : w.heap.size ≤ wa.heap.size := HB.out.size
           have hs1 : wa.heap.size ≤ W1.heap.size := hb1.size
           have hl1 : w.heap.size + 1 < wa.heap.size := HP1.out.lt
           clear ha hb hc hd hb1)
        | ((with_reducible refine wpList_new61 (t.slices a b c d) ?_ ?_ ?_)
           exact rfl
           exact rfl
           have HB2 := hid (HB1.out.alloc HB1.out.size (.cells (thC (t.slices a b c d)) 61))
           have HG2 : Hid (Blk (W1.alloc (.cells (thC (t.slices a b c d)) 61)) W1.heap.size 61 (thC (t.slices a b c d))) := Blk.new W1 61 _
           have S2 : Hid (But nil_ W1 (W1.alloc (.cells (thC (t.slices a b c d)) 61))) := (But.refl nil_ W1).alloc _
           have hs2 : (W1.alloc (.cells (thC (t.slices a b c d)) 61)).heap.size = W1.heap.size + 1 := by simp
           generalize W1.alloc (.cells (thC (t.slices a b c d)) 61) = W2 at *
           obtain ⟨f0, f14, f15⟩ : W2.cell? ⟨W1.heap.size, 0, none⟩ = some (.int .u64 t.id) ∧ W2.cell? ⟨W1.heap.size, 14, none⟩ = some (.int .i64 t.minted) ∧ W2.cell? ⟨W1.heap.size, 15, none⟩ = some (.int .i64 t.boot) := ⟨(Blk.cell HG2.out 0).trans rfl, (Blk.cell HG2.out 14).trans rfl, (Blk.cell HG2.out 15).trans rfl⟩)
        | ((with_reducible refine wpList_put61 { t.slices a b c d with minted := 0 } { t.slices a b c d with minted := 0, boot := boot } W1.heap.size 15 (.int .i64 boot) [.int .i64 boot] ?_ ?_ HGa.out ?_ ?_ ?_ ?_ ?_ ?_)
           · exact rfl
           · exact rfl
           · exact rfl
           · exact size3
           · exact Nat.le_of_ble_eq_true rfl
           · exact one_of rfl
           · exact rfl
           intro Wb hbb2 hkb
           have HGb : Hid (Blk Wb W1.heap.size 61 (thC { t.slices a b c d with minted := N, boot := boot })) := by show Blk _ _ _ _; rw [HNE.out]; exact hkb
           have SB := hid ((S2.out.into (fun _ x => x.elim)).trans (SA.out.trans hbb2))
           clear hbb2 hkb
           obtain ⟨f0, f14⟩ : Wb.cell? ⟨W1.heap.size, 0, none⟩ = some (.int .u64 t.id) ∧ Wb.cell? ⟨W1.heap.size, 14, none⟩ = some (.int .i64 N) := ⟨(Blk.cell HGb.out 0).trans rfl, (Blk.cell HGb.out 14).trans rfl⟩)
        | ((with_reducible refine wpList_put61 (t.slices a b c d) { t.slices a b c d with minted := 0 } W1.heap.size 14 (.int .i64 0) [.int .i64 0] ?_ ?_ HG2.out ?_ ?_ ?_ ?_ ?_ ?_)
           · exact rfl
           · exact rfl
           · exact rfl
           · exact size3
           · exact Nat.le_of_ble_eq_true rfl
           · exact one_of rfl
           · exact rfl
           intro Wa hba hka
           have HGa := hid hka
           have SA := hid hba
           clear hba hka f0 f14 f15)
        | ((with_reducible refine wpList_put61 { t.slices a b c d with minted := N, boot := boot } { t.slices a b c d with minted := N + 1, boot := boot } W1.heap.size 14 (.int .i64 (N + 1)) [.int .i64 (N + 1)] ?_ ?_ HGb.out ?_ ?_ ?_ ?_ ?_ ?_)
           · exact rfl
           · exact rfl
           · exact rfl
           · exact size3
           · exact Nat.le_of_ble_eq_true rfl
           · exact one_of rfl
           · exact rfl
           intro W3 hb3 hk3
           have HG3 := hid hk3
           have S3 := hid (SB.out.trans hb3)
           have hs3 : Wb.heap.size ≤ W3.heap.size := hb3.size
           clear hb3 hk3 f0 f14
           obtain ⟨f0, f14⟩ : W3.cell? ⟨W1.heap.size, 0, none⟩ = some (.int .u64 t.id) ∧ W3.cell? ⟨W1.heap.size, 14, none⟩ = some (.int .i64 (N + 1)) := ⟨(Blk.cell HG3.out 0).trans rfl, (Blk.cell HG3.out 14).trans rfl⟩))
      clear f0 f14 e1 e2 e3 e4 e5 e6 hw1 hdec hbb
      have hg3 : W1.heap.size < W3.heap.size := HG3.out.lt
      have hD : ∀ k, at_ W1.heap.size k → w.heap.size ≤ k := fun k e => by have : k = _ := e; omega
      have hD2 : ∀ k, at_ W1.heap.size k → k < W3.heap.size := fun k e => by have : k = _ := e; omega
      have HS3 := hid (HS1.out.keep S3.out (fun j hj e => by have : j = W1.heap.size := e; omega))
      have HM3 : Hid (∀ W, But (at_ W1.heap.size) W3 W → ThAt W (t.slices a b c d) p) := fun W hW => (HS3.out.keep hW (fun j hj e => by have : j = W1.heap.size := e; omega)).at_
      have HZ1 : Hid (a.n + 1 ≤ 8796093022208 ∧ b.n + 1 ≤ 8796093022208) := by
        have h1 : p.l1.length = a.n := HS3.out.at_.c1.len
        have h2 : p.l1.length = t.l1.n := H.out.c1.len
        have h3 : p.l2.length = b.n := HS3.out.at_.c2.len
        have h4 : p.l2.length = t.l2.n := H.out.c2.len
        have := HMY.out.z1
        have := HMY.out.z2
        exact ⟨by omega, by omega⟩
      have HF : Hid (∀ W, But nil_ W3 W → (W.cell? ⟨W1.heap.size, 2, none⟩ = some (.int .i64 t.d1) ∧ W.cell? ⟨W1.heap.size, 3, none⟩ = some (.slice a.a a.n a.c)) ∧ (W.cell? ⟨W1.heap.size, 4, none⟩ = some (.int .i64 t.d2) ∧ W.cell? ⟨W1.heap.size, 5, none⟩ = some (.slice b.a b.n b.c))) := fun W hW => by
        have r := Blk.cells26 (hW.blk HG3.out (fun h => h))
        exact ⟨r.1, r.2.1⟩
      generalize hL1 : formL t.d1 ((C, 0) :: p.l1) = L1 at *
      generalize hL2 : formL t.d2 ((C, 4) :: p.l2) = L2 at *
      have HS49 : Hid (∀ W, But (at_ W1.heap.size) W3 W → Calls Try.prog 49 #[.agg #[.int .i64 t.d1, .slice a.a a.n a.c], .int .u64 C, .int .i64 0] W fun e w' => RetOwn t.d1 L1 W e w') := fun W hW => by rw [← hL1]; exact (set49 W t.d1 C 0 a.a a.n a.c p.l1 (HM3.out W hW).c1 HZ1.out.1).mono fun _ _ h => made_own h
      have HS49' : Hid (∀ W, But (at_ W1.heap.size) W3 W → Calls Try.prog 49 #[.agg #[.int .i64 t.d2, .slice b.a b.n b.c], .int .u64 C, .int .i64 4] W fun e w' => RetOwn t.d2 L2 W e w') := fun W hW => by rw [← hL2]; exact (set49 W t.d2 C 4 b.a b.n b.c p.l2 (HM3.out W hW).c2 HZ1.out.2).mono fun _ _ h => made_own h
      clear hL1 hL2
      refine wp_region_toldw 12 (at_ W1.heap.size) mixed (by kernel_rfl) ?_
      simp only [List.take_succ_cons, List.take_zero, List.drop_succ_cons, List.drop_zero]
      repeat (refine told_early (v := ?_) rfl (fun _ => rfl) (fun vs W hW => ?_) ?_; rotate_left; (focus (have hf := HF.out W hW; clear hW; go_simp; exact loose_early)); simp only [Act.put, List.setIfInBounds_toArray, List.set_cons_zero, List.set_cons_succ, List.nil_append, List.cons_append, Nat.reduceAdd, Leaves.at])
      refine told_rel (LabF W3.heap.size t.d1 L1) (LabF.stable hD2) (fun _ => rfl) (fun vs W hW hd => ?_) ?_
      · clear hd; go_simp; exact loose_callR (RetOwn.labF (HS49.out W hW) hW.size)
      simp only [Act.put, List.setIfInBounds_toArray, List.set_cons_zero, List.set_cons_succ, List.nil_append, List.cons_append, Nat.reduceAdd, Leaves.at]
      iterate 2 (refine told_early (v := ?_) rfl (fun _ => rfl) (fun vs W hW => ?_) ?_; rotate_left; (focus (have hf := HF.out W hW; clear hW; go_simp; exact loose_early)); simp only [Act.put, List.setIfInBounds_toArray, List.set_cons_zero, List.set_cons_succ, List.nil_append, List.cons_append, Nat.reduceAdd, Leaves.at])
      repeat (refine told_val (v := ?_) (fun _ => rfl) (fun vs W hW => ?_) ?_; rotate_left; (focus (clear hW; go_simp; exact loose_val)); simp only [Act.put, List.setIfInBounds_toArray, List.set_cons_zero, List.set_cons_succ, List.nil_append, List.cons_append, Nat.reduceAdd, Leaves.at])
      refine told_rel (LabF W3.heap.size t.d2 L2) (LabF.stable hD2) (fun _ => rfl) (fun vs W hW hd => ?_) ?_
      · clear hd; go_simp; exact loose_callR (RetOwn.labF (HS49'.out W hW) hW.size)
      simp only [Act.put, List.setIfInBounds_toArray, List.set_cons_zero, List.set_cons_succ, List.nil_append, List.cons_append, Nat.reduceAdd, Leaves.at]
      repeat (refine told_val (v := ?_) (fun _ => rfl) (fun vs W hW => ?_) ?_; rotate_left; (focus (clear hW; go_simp; exact loose_val)); simp only [Act.put, List.setIfInBounds_toArray, List.set_cons_zero, List.set_cons_succ, List.nil_append, List.cons_append, Nat.reduceAdd, Leaves.at])
      refine told_write0 (C := (fun W => ∃ s : Sl, Blk W W1.heap.size 61 (thC { t.slices a b c d with minted := N + 1, boot := boot, l1 := s }) ∧ CatsF W3.heap.size L1 W s)) (hs := (fun _ _ _ hb ⟨b, hk, h⟩ => ⟨b, hb.blk hk (fun x => x), h.keep hb (fun _ x => x.elim)⟩)) (hno := by kernel_rfl) (h0 := rfl) (hw := fun _ => rfl) (hr := fun vs W hW hd => ?_) ?_
      · obtain ⟨s, e, hs⟩ := hd ⟨3, .data⟩ (by simp) rfl _ rfl (fun h => by cases h); clear hd; exact loose_store (v := .agg #[.int .i64 t.d1, .slice s.a s.n s.c]) (vs := [.int .i64 t.d1, .slice s.a s.n s.c]) (cur := ({ t.slices a b c d with minted := N + 1, boot := boot } : Th).cells) rfl rfl e (hW.blk HG3.out (fun h => h)) rfl size26 (Nat.le_of_ble_eq_true rfl) (one_label _ _ _ _) rfl (fun W' hb hk => ⟨s, hk, hs.keep hb hD2⟩)
      simp only [Act.put, List.setIfInBounds_toArray, List.set_cons_zero, List.set_cons_succ, List.nil_append, List.cons_append, Nat.reduceAdd, Leaves.at]
      repeat (refine told_val (v := ?_) (fun _ => rfl) (fun vs W hW => ?_) ?_; rotate_left; (focus (clear hW; go_simp; exact loose_val)); simp only [Act.put, List.setIfInBounds_toArray, List.set_cons_zero, List.set_cons_succ, List.nil_append, List.cons_append, Nat.reduceAdd, Leaves.at])
      refine told_write1 (j := 9) (C0 := _) (C := (fun W => ∃ s s2 : Sl, Blk W W1.heap.size 61 (thC { t.slices a b c d with minted := N + 1, boot := boot, l1 := s, l2 := s2 }) ∧ CatsF W3.heap.size L1 W s ∧ CatsF W3.heap.size L2 W s2)) (hj := rfl) (h1 := rfl) (hs := (fun _ _ _ hb ⟨b, b2, hk, h, h2⟩ => ⟨b, b2, hb.blk hk (fun x => x), h.keep hb (fun _ x => x.elim), h2.keep hb (fun _ x => x.elim)⟩)) (hno := by kernel_rfl) (hw := fun _ => rfl) (hr := fun vs W hW hC hd => ?_) ?_
      · obtain ⟨s0, hk0, hs0⟩ := hC; obtain ⟨s, e, hs⟩ := hd ⟨7, .data⟩ (by simp) rfl _ rfl (fun h => by cases h); clear hd; exact loose_store (v := .agg #[.int .i64 t.d2, .slice s.a s.n s.c]) (vs := [.int .i64 t.d2, .slice s.a s.n s.c]) (cur := ({ t.slices a b c d with minted := N + 1, boot := boot, l1 := s0 } : Th).cells) rfl rfl e hk0 rfl size26 (Nat.le_of_ble_eq_true rfl) (one_label _ _ _ _) rfl (fun W' hb hk => ⟨s0, s, hk, hs0.keep hb hD2, hs.keep hb hD2⟩)
      simp only [Act.put, List.setIfInBounds_toArray, List.set_cons_zero, List.set_cons_succ, List.nil_append, List.cons_append, Nat.reduceAdd, Leaves.at]
      refine told_nil ?_
      intro vs W4 hW4 hok hap hwr
      have hC := hwr 11 _ rfl (noWr_of rfl)
      clear hap hwr
      dsimp only
      obtain ⟨s, s2, hk4, hA4, hB4⟩ := hC
      have HG4 := hid hk4
      have S4 : Hid (But (fun k => k = W1.heap.size) W1 W4) := S3.out.trans hW4
      have HA4 := hid hA4
      have HB4 := hid hB4
      have hs4 : W3.heap.size ≤ W4.heap.size := hW4.size
      clear hok hW4 hk4 hA4 hB4 HF HS49 HS49' HM3
      obtain ⟨r1, hr1⟩ : ∃ z, z = rightB t.d1 L1 := ⟨_, rfl⟩
      obtain ⟨r2, hr2⟩ : ∃ z, z = rightB t.d2 L2 := ⟨_, rfl⟩
      rw [← hr1, ← hr2] at HLE
      have HR1 : Hid (∀ W, But nil_ W4 W → Calls Try.prog 51 #[.agg #[.int .i64 t.d1, .slice s.a s.n s.c]] W fun e w' => e = .returned (.bool r1) ∧ Below W.heap.size W w') := fun W hW => by rw [hr1]; exact right51 W _ _ _ _ _ (HA4.out.1.since_ hW)
      have HR2 : Hid (∀ W, But nil_ W4 W → Calls Try.prog 51 #[.agg #[.int .i64 t.d2, .slice s2.a s2.n s2.c]] W fun e w' => e = .returned (.bool r2) ∧ Below W.heap.size W w') := fun W hW => by rw [hr2]; exact right51 W _ _ _ _ _ (HB4.out.1.since_ hW)
      obtain ⟨c1, hc1⟩ : ∃ z, z = !r1 := ⟨_, rfl⟩
      have HC1 := hid hc1
      clear hr1 hr2 hc1
      go_wp2_with (refine wp_list_told 10 10 nil_ rfl (by decide) ?_)
      have HF : Hid (∀ W, But nil_ W4 W → (W.cell? ⟨W1.heap.size, 2, none⟩ = some (.int .i64 t.d1) ∧ W.cell? ⟨W1.heap.size, 3, none⟩ = some (.slice s.a s.n s.c)) ∧ (W.cell? ⟨W1.heap.size, 4, none⟩ = some (.int .i64 t.d2) ∧ W.cell? ⟨W1.heap.size, 5, none⟩ = some (.slice s2.a s2.n s2.c))) := fun W hW => by
        have r := Blk.cells26 (hW.blk HG4.out (fun h => h))
        exact ⟨r.1, r.2.1⟩
      try simp only [List.take_succ_cons, List.take_zero, List.drop_succ_cons, List.drop_zero]
      repeat (refine told_val (v := ?_) (fun _ => rfl) (fun vs W hW => ?_) ?_; rotate_left; (focus (have hf := HF.out W hW; clear hW; go_simp; exact loose_val)); simp only [Act.put, List.setIfInBounds_toArray, List.set_cons_zero, List.set_cons_succ, List.nil_append, List.cons_append, Nat.reduceAdd, Leaves.at])
      refine told_val (v := .bool r1) (fun _ => rfl) (fun vs W hW => ?_) ?_
      · go_simp
        exact loose_call (HR1.out W hW)
      simp only [Act.put, List.setIfInBounds_toArray, List.set_cons_zero, List.set_cons_succ, List.nil_append, List.cons_append, Nat.reduceAdd, Leaves.at]
      refine told_val (v := .bool c1) (hw := fun _ => rfl) (hr := fun vs W hW => by rw [HC1.out]; clear hW; go_simp; exact loose_val) ?_
      simp only [Act.put, List.setIfInBounds_toArray, List.set_cons_zero, List.set_cons_succ, List.nil_append, List.cons_append, Nat.reduceAdd, Leaves.at]
      repeat (refine told_val (v := ?_) (fun _ => rfl) (fun vs W hW => ?_) ?_; rotate_left; (focus (have hf := HF.out W hW; clear hW; go_simp; exact loose_val)); simp only [Act.put, List.setIfInBounds_toArray, List.set_cons_zero, List.set_cons_succ, List.nil_append, List.cons_append, Nat.reduceAdd, Leaves.at])
      repeat (refine told_not (b := c1) (v := ?_) (fun _ => Bool.casesOn c1 rfl rfl) (fun hb vs W hW => ?_) ?_; rotate_left; (focus (have hf := HF.out W hW; clear hW; (try simp only [hb, cond_true, cond_false]); go_simp; exact loose_val)); simp only [Act.put, List.setIfInBounds_toArray, List.set_cons_zero, List.set_cons_succ, List.nil_append, List.cons_append, Nat.reduceAdd, Leaves.at])
      refine told_not (b := c1) (v := .bool r2) (fun _ => Bool.casesOn c1 rfl rfl) (fun hb vs W hW => ?_) ?_
      · try simp only [hb, cond_true, cond_false]
        go_simp
        exact loose_call (HR2.out W hW)
      simp only [Act.put, List.setIfInBounds_toArray, List.set_cons_zero, List.set_cons_succ, List.nil_append, List.cons_append, Nat.reduceAdd, Leaves.at]
      repeat (refine told_not (b := c1) (v := ?_) (fun _ => Bool.casesOn c1 rfl rfl) (fun hb vs W hW => ?_) ?_; rotate_left; (focus (have hf := HF.out W hW; clear hW; (try simp only [hb, cond_true, cond_false]); go_simp; exact loose_val)); simp only [Act.put, List.setIfInBounds_toArray, List.set_cons_zero, List.set_cons_succ, List.nil_append, List.cons_append, Nat.reduceAdd, Leaves.at])
      refine told_val (v := .bool (c1 || !r2)) (hw := fun _ => rfl) (hr := fun vs W hW => by clear hW; cases c1 <;> (go_simp; exact loose_val)) ?_
      simp only [Act.put, List.setIfInBounds_toArray, List.set_cons_zero, List.set_cons_succ, List.nil_append, List.cons_append, Nat.reduceAdd, Leaves.at]
      refine told_nil ?_
      intro vs W5 hW5 hok hap
      clear hap
      dsimp only
      have S5 : Hid (But (fun k => k = W1.heap.size) W1 W5) := S4.out.trans (hW5.into (fun _ x => x.elim))
      have HG5 := hid (hW5.blk HG4.out (fun h => h))
      have HA5 := hid (HA4.out.keep hW5 (fun _ x => x.elim))
      have HB5 := hid (HB4.out.keep hW5 (fun _ x => x.elim))
      have hs5 : W4.heap.size ≤ W5.heap.size := hW5.size
      clear hok hW5 HF HR1 HR2
      have HM0 := hid (S5.out.blk HN0.out (fun e => by have := HN0.out.lt; have : w.heap.size = W1.heap.size := e; omega))
      have HM1 := hid (S5.out.blk HN1.out (fun e => by have : w.heap.size + 1 = W1.heap.size := e; omega))
      generalize hq : (c1 || !r2) = q at *
      have HQ := hid hq
      clear hq
      cases q with
      | true =>
        have HOE : Hid (O = ⟨t, p, 0, 91⟩) := by
          show _ = _
          rw [HLE.out]
          have : (r1 && r2) = false := by have := HQ.out; rw [HC1.out] at this; revert this; cases r1 <;> cases r2 <;> simp
          rw [this]; rfl
        go_wp2_with (first
          | ((with_reducible refine wpList_load61 t w.heap.size ?_ HM0.out ?_); exact rfl)
          | ((with_reducible refine wpList_store61 t zeroTh (w.heap.size + 1) ?_ ?_ HM1.out ?_); exact rfl; exact rfl; intro w9 hb9 hk9))
        have SX : Hid (But (fun k => k = W1.heap.size ∨ k = w.heap.size + 1) W1 W5) := S5.out.into fun k e => .inl e

        have hX := SX.out.trans (hb9.into (D' := fun k => k = W1.heap.size ∨ k = w.heap.size + 1) fun k e => .inr e)
        have hs9 := hX.size
        refine bodyPost_ret (th_run3 hk9 rfl _ rfl rfl rfl) rfl ⟨t.l1, t.l2, t.links, t.data, by rw [HOE.out]; rfl, by rw [HOE.out]; exact (HT1.out.keep hX (fun j hj e => by have := hj.2; omega)).mono fun j hj => .inl hj.1, hX.done HB1.out (fun k e => by omega) (by omega)⟩
      | false =>
        have HOE : Hid (O = ⟨{ t with boot := boot, minted := N + 1 }, { p with l1 := L1, l2 := L2 }, C, 0⟩) := by
          show _ = _
          rw [HLE.out]
          have : (r1 && r2) = true := by have := HQ.out; rw [HC1.out] at this; revert this; cases r1 <;> cases r2 <;> simp
          rw [this]; rfl
        go_wp2_with (first
          | ((with_reducible refine wpList_load61 { t.slices a b c d with minted := N + 1, boot := boot, l1 := s, l2 := s2 } W1.heap.size ?_ HG5.out ?_); exact rfl)
          | ((with_reducible refine wpList_store61 { t.slices a b c d with minted := N + 1, boot := boot, l1 := s, l2 := s2 } zeroTh (w.heap.size + 1) ?_ ?_ HM1.out ?_); exact rfl; exact rfl; intro w9 hb9 hk9))
        have hX := (S5.out.into (D' := fun k => k = W1.heap.size ∨ k = w.heap.size + 1) fun k e => .inl e).trans (hb9.into (D' := fun k => k = W1.heap.size ∨ k = w.heap.size + 1) fun k e => .inr e)
        have hs9 := hX.size
        have hK := HS1.out.keep hX (fun j hj e => by omega)
        refine bodyPost_ret (th_run3 hk9 rfl _ rfl rfl rfl) rfl ⟨s, s2, c, d, by rw [HOE.out]; rfl, by rw [HOE.out]; exact ⟨⟨(HA5.out.keep hb9 (fun k e => by omega)).1, (HB5.out.keep hb9 (fun k e => by omega)).1, hK.at_.lk, hK.at_.dt⟩, (HA5.out.keep hb9 (fun k e => by omega)).sl.mono (fun j hj => .inr ⟨by omega, by omega⟩), (HB5.out.keep hb9 (fun k e => by omega)).sl.mono (fun j hj => .inr ⟨by omega, by omega⟩), hK.b3.mono (fun j hj => .inr ⟨by omega, by omega⟩), hK.b4.mono (fun j hj => .inr ⟨by omega, by omega⟩)⟩, hX.done HB1.out (fun k e => by omega) (by omega)⟩
theorem mint80 (w : World) (t : Th) (p : Tl) (boot : Int) (h : ThAt w t p) (hm : Minty t boot) : Calls Try.prog 80 #[.agg (thC t), .int .i64 boot] w fun e w' => RetMint (mintO t p boot) w e w' :=
  (mint80s w t p boot _ h.s h hm).mono fun _ _ ⟨a, b, c, d, he, ht, hb⟩ => ⟨a, b, c, d, he, ht.at_, hb⟩
end Go.Proofs.Ytndohmimcbmhdaa

/- The document's Mint. -/
set_option linter.unusedVariables false
set_option linter.unusedSimpArgs false
namespace Go.Proofs.Ytndohmimcbmhdaa
open Go.RowKit Go.Sort

theorem label_zero26 : (Try.prog.info? 26).bind (·.zero) = some (.agg #[.int .i64 0, .slice none 0 0]) := by kernel_rfl
/-- A label in a block of its own. -/
theorem wpList_new26 {ops : Array Oper} {rest : List Oper} {a : Act} {w : World} {Q : Exit → Act → World → Prop} {d : Tmp} {y : Operand} {ty1 ty2 : TypeId} {p1 p2 : String} {f1 f2 : Array Edge} (x : Int) (A : Option Addr) (n c : Nat)
    (hd : (a.put (some d) (.pointer (some ⟨w.heap.size, 0, none⟩))).eval (.tmp d) = .pointer (some ⟨w.heap.size, 0, none⟩)) (hy : (a.put (some d) (.pointer (some ⟨w.heap.size, 0, none⟩))).eval y = .agg #[.int .i64 x, .slice A n c])
    (h : wpList Try.prog ops Q rest (a.put (some d) (.pointer (some ⟨w.heap.size, 0, none⟩))) (w.alloc (.cells #[.int .i64 x, .slice A n c] 26))) :
    wpList Try.prog ops Q ({ dst := some d, op := .alloc 26, type := ty1, pos := p1, after := f1, guard := none } :: { dst := none, op := .store 26 (.tmp d) y, type := ty2, pos := p2, after := f2, guard := none } :: rest) a w := by
  have hz := label_zero26
  refine Great.wpList_runTo rfl _ rfl (.pointer (some ⟨w.heap.size, 0, none⟩)) (w.alloc (.cells #[.int .i64 0, .slice none 0 0] 26)) ?_ ?_
  · cases hq : Try.prog.info? 26 with
    | none => rw [hq] at hz; cases hz
    | some i =>
      rw [hq] at hz
      have hz' : i.zero = some (.agg #[.int .i64 0, .slice none 0 0]) := hz
      simp [execOp, Instr.alloc, typeInfo, hq, hz', newVar, newRow]
      rfl
  · refine wpList_store_rowTo rfl 26 _ _ rfl rfl w.heap.size #[.int .i64 x, .slice A n c] hd hy 26 #[.int .i64 0, .slice none 0 0] (heap_alloc_new w _) size26 rfl (by simp [Value.oneCell']) ?_
    rw [World.setRow_alloc_new]
    exact h

set_option maxHeartbeats 8000000 in
set_option maxRecDepth 100000 in
theorem mint81s (w : World) (t : Th) (p : Tl) (boot : Int) (S : Nat → Prop) (hS : ThS S w t p) (h : ThAt w t p) (hm : Minty t boot) :
    Calls Try.prog 81 #[.agg (thC t), .int .i64 boot] w fun e w' => RetMintS S (mintO t p boot) w e w' := by
  have mixed : Try.prog.follows .mixedOrders = true := by kernel_rfl
  obtain ⟨q0, q1, q2⟩ := two_blk w (thC t) (thC zeroTh) 61 61
  have HB := hid q0
  have HP0 := hid q1
  have HP1 := hid q2
  have H := hid (ThAt.in_ h q0)
  have hsz : (w.alloc (.cells (thC t) 61)).heap.size = w.heap.size + 1 := by simp
  have HL0 := hid (Nat.le_of_lt q1.lt)
  have HMY := hid hm
  obtain ⟨O, hO⟩ : ∃ O, O = mintO t p boot := ⟨_, rfl⟩
  rw [← hO]
  have HO := hid hO
  obtain ⟨N, hN⟩ : ∃ N, N = mintN t boot := ⟨_, rfl⟩
  have HN := hid hN
  have HNI := hid (mintN_in hm)
  rw [← hN] at HNI
  obtain ⟨C, hC⟩ : ∃ C, C = mintCat t boot := ⟨_, rfl⟩
  have HC := hid hC
  have HC2 : Hid (C = t.id * 8192 + boot * 32 + (N + 1)) := by show _ = _; rw [hC, hN]; rfl
  have HPF : Hid (∀ (W : World), Blk W w.heap.size 61 (thC t) → (W.cell? ⟨w.heap.size, 0, none⟩ = some (.int .u64 t.id) ∧ W.cell? ⟨w.heap.size, 14, none⟩ = some (.int .i64 t.minted) ∧ W.cell? ⟨w.heap.size, 15, none⟩ = some (.int .i64 t.boot)) ∧ (W.cell? ⟨w.heap.size, 2, none⟩ = some (.int .i64 t.d1) ∧ W.cell? ⟨w.heap.size, 3, none⟩ = some (.slice t.l1.a t.l1.n t.l1.c)) ∧ (W.cell? ⟨w.heap.size, 4, none⟩ = some (.int .i64 t.d2) ∧ W.cell? ⟨w.heap.size, 5, none⟩ = some (.slice t.l2.a t.l2.n t.l2.c))) := fun W hk => ⟨⟨(Blk.cell hk 0).trans rfl, (Blk.cell hk 14).trans rfl, (Blk.cell hk 15).trans rfl⟩, (Blk.cells26 hk).1, (Blk.cells26 hk).2.1⟩
  have HSS := hid (hS.and h.s)
  have hWa := hid ((But.refl nil_ w).below q0)
  clear q0 q1 q2 h hm hO hN hC hS
  by_cases hbt : t.boot = boot
  · have HNE : Hid (N = t.minted) := by show _ = _; rw [HN.out]; unfold mintN; rw [if_pos hbt]
    have hbb : (t.boot != boot) = false := by simpa using hbt
    clear hbt
    by_cases h31 : N = 31
    · have HOE : Hid (O = ⟨t, p, 0, 182⟩) := by show _ = _; rw [HO.out]; unfold mintO; rw [if_pos (by rw [← HN.out]; omega)]
      have hq31 : (t.minted == (31 : Int)) = true := by rw [← HNE.out, h31]; rfl
      have HT0 := hid (HSS.out.keep hWa.out (fun _ _ h => h))
      clear h31
      go_enter Try.func81, Try.ntmps81
      go_wp2_with (first
        | (with_reducible refine wpList_alloc61 ?_; rw [hsz]; generalize (w.alloc (.cells (thC t) 61)).alloc (.cells (thC zeroTh) 61) = wa at *; obtain ⟨⟨f0, f14, f15⟩, ⟨f2, f3⟩, f4, f5⟩ := HPF.out wa HP0.out)
        | ((with_reducible refine wpList_load61 t w.heap.size ?_ HP0.out ?_); exact rfl)
        | ((with_reducible refine wpList_store61 t zeroTh (w.heap.size + 1) ?_ ?_ HP1.out ?_); exact rfl; exact rfl; intro w9 hb9 hk9))
      have hX := hb9
      have hlw := HB.out.size
      have hs9 := hX.size
      refine bodyPost_ret (th_run3 hk9 rfl _ rfl rfl rfl) rfl ⟨t.l1, t.l2, t.links, t.data, by rw [HOE.out]; rfl, by rw [HOE.out]; exact (HT0.out.keep hX (fun j hj e => by have := hj.2; omega)).mono fun j hj => .inl hj.1, hX.done HB.out (fun k e => by omega) (by omega)⟩
    · have hq31 : (t.minted == (31 : Int)) = false := by rw [← HNE.out]; simpa using h31
      have hlt31 : N < 31 := by have := HNI.out.2; omega
      have hn0 := HNI.out.1
      have hw1 : wrap64 (t.minted + 1) = N + 1 := by rw [← HNE.out]; unfold wrap64; omega
      have i0 := HMY.out.id0
      have i1 := HMY.out.id1
      have b0 := HMY.out.b0
      have b1 := HMY.out.b1
      have e1 : IntKind.u64.wrap (t.id * 8192) = t.id * 8192 := wrap_u64_in (by omega) (by omega)
      have e2 : IntKind.u64.wrap boot = boot := wrap_u64_in (by omega) (by omega)
      have e3 : IntKind.u64.wrap (boot * 32) = boot * 32 := wrap_u64_in (by omega) (by omega)
      have e4 : IntKind.u64.wrap (N + 1) = N + 1 := wrap_u64_in (by omega) (by omega)
      have e5 : IntKind.u64.wrap (t.id * 8192 + boot * 32) = t.id * 8192 + boot * 32 := wrap_u64_in (by omega) (by omega)
      have e6 : IntKind.u64.wrap (t.id * 8192 + boot * 32 + (N + 1)) = C := by rw [HC2.out]; exact wrap_u64_in (by omega) (by omega)
      have HLE : Hid (O = bif rightB t.d1 (formL t.d1 ((C, 0) :: p.l1)) && rightB t.d2 (formL t.d2 ((C, 4) :: p.l2)) then ⟨{ t with boot := boot, minted := N + 1 }, { p with l1 := formL t.d1 ((C, 0) :: p.l1), l2 := formL t.d2 ((C, 4) :: p.l2) }, C, 0⟩ else ⟨t, p, 0, 91⟩) := by
        show _ = _
        rw [HO.out]
        unfold mintO mintL mintC
        rw [if_neg (by rw [← HN.out]; omega), ← HC.out, ← HN.out]
      have HT0 := hid (HSS.out.keep hWa.out (fun _ _ h => h))
      have HZ1 : Hid (t.l1.n + 1 ≤ 8796093022208 ∧ t.l2.n + 1 ≤ 8796093022208) := by
        have := HMY.out.z1
        have := HMY.out.z2
        exact ⟨by omega, by omega⟩
      generalize hL1 : formL t.d1 ((C, 0) :: p.l1) = L1 at *
      generalize hL2 : formL t.d2 ((C, 4) :: p.l2) = L2 at *
      have HS50 : Hid (∀ W, ThAt W t p → w.heap.size + 1 + 1 ≤ W.heap.size → Calls Try.prog 50 #[.agg #[.int .i64 t.d1, .slice t.l1.a t.l1.n t.l1.c], .int .u64 C, .int .i64 0] W fun e w' => ∃ v, e = .returned v ∧ LabF (w.heap.size + 1 + 1) t.d1 L1 w' v ∧ Below W.heap.size W w') := fun W hW hl => by rw [← hL1]; exact RetOwn.labF (set50 W t.d1 C 0 t.l1.a t.l1.n t.l1.c p.l1 hW.c1 HZ1.out.1) hl
      have HS50' : Hid (∀ W, ThAt W t p → w.heap.size + 1 + 1 ≤ W.heap.size → Calls Try.prog 50 #[.agg #[.int .i64 t.d2, .slice t.l2.a t.l2.n t.l2.c], .int .u64 C, .int .i64 4] W fun e w' => ∃ v, e = .returned v ∧ LabF (w.heap.size + 1 + 1) t.d2 L2 w' v ∧ Below W.heap.size W w') := fun W hW hl => by rw [← hL2]; exact RetOwn.labF (set50 W t.d2 C 4 t.l2.a t.l2.n t.l2.c p.l2 hW.c2 HZ1.out.2) hl
      clear hL1 hL2 h31
      go_enter Try.func81, Try.ntmps81
      go_wp2_with (first
        | (with_reducible refine wpList_alloc61 ?_; rw [hsz]; generalize (w.alloc (.cells (thC t) 61)).alloc (.cells (thC zeroTh) 61) = wa at *; obtain ⟨⟨f0, f14, f15⟩, ⟨f2, f3⟩, f4, f5⟩ := HPF.out wa HP0.out)
        | ((with_reducible refine wpList_new26 t.d2 A2 n2 c2 ?_ ?_ ?_)
           exact rfl
           exact rfl
           have S4 := hid (S3.out.alloc (.cells #[.int .i64 t.d2, .slice A2 n2 c2] 26))
           have HG2 : Hid (Blk (W3.alloc (.cells #[.int .i64 t.d2, .slice A2 n2 c2] 26)) W3.heap.size 26 #[.int .i64 t.d2, .slice A2 n2 c2]) := Blk.new W3 26 _
           have HG1' := hid (HG1b.out.alloc (.cells #[.int .i64 t.d2, .slice A2 n2 c2] 26))
           have HA4 := hid (HA3.out.keep ((But.refl nil_ W3).alloc (.cells #[.int .i64 t.d2, .slice A2 n2 c2] 26)) (fun _ x => x.elim))
           have HB4 := hid (HB3.out.keep ((But.refl nil_ W3).alloc (.cells #[.int .i64 t.d2, .slice A2 n2 c2] 26)) (fun _ x => x.elim))
           have hs4 : W3.heap.size ≤ (W3.alloc (.cells #[.int .i64 t.d2, .slice A2 n2 c2] 26)).heap.size := by simp
           generalize W3.alloc (.cells #[.int .i64 t.d2, .slice A2 n2 c2] 26) = W4 at *
           generalize hg10 : W3.heap.size = g10 at *
           clear HS50 HS50')
        | (go_at_call 50
           with_reducible refine (HS50'.out _ (HT0.out.keep S2.out (fun _ _ x => x)).at_ (by have := S2.out.size; have := HP1.out.lt; omega)).mono ?_
           rintro e W3 ⟨v2, rfl, ⟨⟨A2, n2, c2⟩, rfl, hT2⟩, hb3⟩
           have S3 := hid (S2.out.below hb3)
           have HG1b := hid (HG1.out.below hb3 HG1.out.lt)
           have HA3 := hid (HA2.out.keep ((But.refl nil_ W2).below hb3) (fun _ x => x.elim))
           have HB3 := hid hT2
           have hs3 : W2.heap.size ≤ W3.heap.size := hb3.size
           clear hb3 hT2 f2 f3 f4 f5)
        | ((with_reducible refine wpList_new26 t.d1 A1 n1 c1 ?_ ?_ ?_)
           exact rfl
           exact rfl
           have S2 := hid (S1.out.alloc (.cells #[.int .i64 t.d1, .slice A1 n1 c1] 26))
           have HG1 : Hid (Blk (W1.alloc (.cells #[.int .i64 t.d1, .slice A1 n1 c1] 26)) W1.heap.size 26 #[.int .i64 t.d1, .slice A1 n1 c1]) := Blk.new W1 26 _
           have HA2 := hid (HA1.out.keep ((But.refl nil_ W1).alloc (.cells #[.int .i64 t.d1, .slice A1 n1 c1] 26)) (fun _ x => x.elim))
           have hs2 : W1.heap.size ≤ (W1.alloc (.cells #[.int .i64 t.d1, .slice A1 n1 c1] 26)).heap.size := by simp
           generalize W1.alloc (.cells #[.int .i64 t.d1, .slice A1 n1 c1] 26) = W2 at *
           generalize hg9 : W1.heap.size = g9 at *
           clear f2 f3 f4 f5
           obtain ⟨_, ⟨f2, f3⟩, f4, f5⟩ := HPF.out W2 (S2.out.blk HP0.out (fun x => x)))
        | (go_at_call 50
           with_reducible refine (HS50.out _ HT0.out.at_ (by have := HP1.out.lt; omega)).mono ?_
           rintro e W1 ⟨v1, rfl, ⟨⟨A1, n1, c1⟩, rfl, hT1⟩, hb1⟩
           have S1 := hid ((But.refl nil_ wa).below hb1)
           have HA1 := hid hT1
           have hs1 : wa.heap.size ≤ W1.heap.size := hb1.size
           have hla : w.heap.size + 1 < wa.heap.size := HP1.out.lt
           clear hb1 hT1 f0 f14 f15)
        | (refine wp_list_told 8 8 nil_ rfl (by decide) ?_))
      clear e1 e2 e3 e4 e5 e6 hw1 hbb hq31
      have hsa : w.heap.size ≤ wa.heap.size := HB.out.size
      obtain ⟨r1, hr1⟩ : ∃ z, z = rightB t.d1 L1 := ⟨_, rfl⟩
      obtain ⟨r2, hr2⟩ : ∃ z, z = rightB t.d2 L2 := ⟨_, rfl⟩
      rw [← hr1, ← hr2] at HLE
      have HR1 : Hid (∀ W, But nil_ W4 W → Calls Try.prog 52 #[.agg #[.int .i64 t.d1, .slice A1 n1 c1]] W fun e w' => e = .returned (.bool r1) ∧ Below W.heap.size W w') := fun W hW => by rw [hr1]; exact right52 W _ _ _ _ _ (HA4.out.1.since_ hW)
      have HR2 : Hid (∀ W, But nil_ W4 W → Calls Try.prog 52 #[.agg #[.int .i64 t.d2, .slice A2 n2 c2]] W fun e w' => e = .returned (.bool r2) ∧ Below W.heap.size W w') := fun W hW => by rw [hr2]; exact right52 W _ _ _ _ _ (HB4.out.1.since_ hW)
      obtain ⟨z1, hz1⟩ : ∃ z, z = !r1 := ⟨_, rfl⟩
      have HC1 := hid hz1
      clear hr1 hr2 hz1
      have HF : Hid (∀ W, But nil_ W4 W → (W.cell? ⟨g9, 0, none⟩ = some (.int .i64 t.d1) ∧ W.cell? ⟨g9, 1, none⟩ = some (.slice A1 n1 c1)) ∧ (W.cell? ⟨g10, 0, none⟩ = some (.int .i64 t.d2) ∧ W.cell? ⟨g10, 1, none⟩ = some (.slice A2 n2 c2))) := fun W hW => ⟨(hW.blk HG1'.out (fun h => h)).cells2, (hW.blk HG2.out (fun h => h)).cells2⟩
      try simp only [List.take_succ_cons, List.take_zero, List.drop_succ_cons, List.drop_zero]
      repeat (refine told_val (v := ?_) (fun _ => rfl) (fun vs W hW => ?_) ?_; rotate_left; (focus (have hf := HF.out W hW; clear hW; go_simp; exact loose_val)); simp only [Act.put, List.setIfInBounds_toArray, List.set_cons_zero, List.set_cons_succ, List.nil_append, List.cons_append, Nat.reduceAdd, Leaves.at])
      refine told_val (v := .bool r1) (fun _ => rfl) (fun vs W hW => ?_) ?_
      · go_simp
        exact loose_call (HR1.out W hW)
      simp only [Act.put, List.setIfInBounds_toArray, List.set_cons_zero, List.set_cons_succ, List.nil_append, List.cons_append, Nat.reduceAdd, Leaves.at]
      refine told_val (v := .bool z1) (hw := fun _ => rfl) (hr := fun vs W hW => by rw [HC1.out]; clear hW; go_simp; exact loose_val) ?_
      simp only [Act.put, List.setIfInBounds_toArray, List.set_cons_zero, List.set_cons_succ, List.nil_append, List.cons_append, Nat.reduceAdd, Leaves.at]
      repeat (refine told_val (v := ?_) (fun _ => rfl) (fun vs W hW => ?_) ?_; rotate_left; (focus (have hf := HF.out W hW; clear hW; go_simp; exact loose_val)); simp only [Act.put, List.setIfInBounds_toArray, List.set_cons_zero, List.set_cons_succ, List.nil_append, List.cons_append, Nat.reduceAdd, Leaves.at])
      repeat (refine told_not (b := z1) (v := ?_) (fun _ => Bool.casesOn z1 rfl rfl) (fun hb vs W hW => ?_) ?_; rotate_left; (focus (have hf := HF.out W hW; clear hW; (try simp only [hb, cond_true, cond_false]); go_simp; exact loose_val)); simp only [Act.put, List.setIfInBounds_toArray, List.set_cons_zero, List.set_cons_succ, List.nil_append, List.cons_append, Nat.reduceAdd, Leaves.at])
      refine told_not (b := z1) (v := .bool r2) (fun _ => Bool.casesOn z1 rfl rfl) (fun hb vs W hW => ?_) ?_
      · try simp only [hb, cond_true, cond_false]
        go_simp
        exact loose_call (HR2.out W hW)
      simp only [Act.put, List.setIfInBounds_toArray, List.set_cons_zero, List.set_cons_succ, List.nil_append, List.cons_append, Nat.reduceAdd, Leaves.at]
      repeat (refine told_not (b := z1) (v := ?_) (fun _ => Bool.casesOn z1 rfl rfl) (fun hb vs W hW => ?_) ?_; rotate_left; (focus (have hf := HF.out W hW; clear hW; (try simp only [hb, cond_true, cond_false]); go_simp; exact loose_val)); simp only [Act.put, List.setIfInBounds_toArray, List.set_cons_zero, List.set_cons_succ, List.nil_append, List.cons_append, Nat.reduceAdd, Leaves.at])
      refine told_val (v := .bool (z1 || !r2)) (hw := fun _ => rfl) (hr := fun vs W hW => by clear hW; cases z1 <;> (go_simp; exact loose_val)) ?_
      simp only [Act.put, List.setIfInBounds_toArray, List.set_cons_zero, List.set_cons_succ, List.nil_append, List.cons_append, Nat.reduceAdd, Leaves.at]
      refine told_nil ?_
      intro vs W5 hW5 hok hap
      clear hap
      dsimp only
      have S5 := hid (S4.out.trans hW5)
      have HA5 := hid (HA4.out.keep hW5 (fun _ x => x.elim))
      have HB5 := hid (HB4.out.keep hW5 (fun _ x => x.elim))
      have HK9 := hid (hW5.blk HG1'.out (fun h => h))
      have HK10 := hid (hW5.blk HG2.out (fun h => h))
      have hs5 : W4.heap.size ≤ W5.heap.size := hW5.size
      clear hok hW5 HF HR1 HR2
      have HM0 := hid (S5.out.blk HP0.out (fun h => h))
      have HM1 := hid (S5.out.blk HP1.out (fun h => h))
      generalize hq : (z1 || !r2) = q at *
      have HQ := hid hq
      clear hq
      cases q with
      | true =>
        have HOE : Hid (O = ⟨t, p, 0, 91⟩) := by
          show _ = _
          rw [HLE.out]
          have : (r1 && r2) = false := by have := HQ.out; rw [HC1.out] at this; revert this; cases r1 <;> cases r2 <;> simp
          rw [this]; rfl
        go_wp2_with (first
          | ((with_reducible refine wpList_load61 t w.heap.size ?_ HM0.out ?_); exact rfl)
          | ((with_reducible refine wpList_store61 t zeroTh (w.heap.size + 1) ?_ ?_ HM1.out ?_); exact rfl; exact rfl; intro w9 hb9 hk9))
        have hX := (S5.out.into (D' := fun k => k = w.heap.size + 1) (fun _ x => x.elim)).trans hb9
        have hs9 := hX.size
        refine bodyPost_ret (th_run3 hk9 rfl _ rfl rfl rfl) rfl ⟨t.l1, t.l2, t.links, t.data, by rw [HOE.out]; rfl, by rw [HOE.out]; exact (HT0.out.keep hX (fun j hj e => by have := hj.2; omega)).mono fun j hj => .inl hj.1, hX.done HB.out (fun k e => by omega) (by omega)⟩
      | false =>
        have HOE : Hid (O = ⟨{ t with boot := boot, minted := N + 1 }, { p with l1 := L1, l2 := L2 }, C, 0⟩) := by
          show _ = _
          rw [HLE.out]
          have : (r1 && r2) = true := by have := HQ.out; rw [HC1.out] at this; revert this; cases r1 <;> cases r2 <;> simp
          rw [this]; rfl
        have hw1 : wrap64 (t.minted + 1) = N + 1 := by rw [← HNE.out]; unfold wrap64; omega
        go_wp2_with (first
          | ((with_reducible refine wpList_put61 { t with boot := boot, minted := N + 1, l1 := ⟨A1, n1, c1⟩ } { t with boot := boot, minted := N + 1, l1 := ⟨A1, n1, c1⟩, l2 := ⟨A2, n2, c2⟩ } w.heap.size 4 (.agg #[.int .i64 t.d2, .slice A2 n2 c2]) [.int .i64 t.d2, .slice A2 n2 c2] ?_ ?_ HK3.out ?_ ?_ ?_ ?_ ?_ ?_)
             · exact rfl
             · first | exact rfl | (rw [← hw1]; exact rfl)
             · exact rfl
             · exact size26
             · exact Nat.le_of_ble_eq_true rfl
             · exact one_label _ _ _ _
             · exact rfl
             intro w4 hb4 hk4
             have HK4 := hid hk4
             have X4 := hid (X3.out.trans hb4)
             have HM4 := hid (X4.out.blk HM1.out (fun e => by have : w.heap.size + 1 = w.heap.size := e; omega))
             clear hb4 hk4 f2 f3)
          | ((with_reducible refine wpList_put61 { t with boot := boot, minted := N + 1 } { t with boot := boot, minted := N + 1, l1 := ⟨A1, n1, c1⟩ } w.heap.size 2 (.agg #[.int .i64 t.d1, .slice A1 n1 c1]) [.int .i64 t.d1, .slice A1 n1 c1] ?_ ?_ HK2.out ?_ ?_ ?_ ?_ ?_ ?_)
             · exact rfl
             · first | exact rfl | (rw [← hw1]; exact rfl)
             · exact rfl
             · exact size26
             · exact Nat.le_of_ble_eq_true rfl
             · exact one_label _ _ _ _
             · exact rfl
             intro w3 hb3 hk3
             have HK3 := hid hk3
             have X3 := hid (X2.out.trans hb3)
             clear hb3 hk3 f2 f3
             obtain ⟨f2, f3⟩ := Blk.cells2 (X3.out.blk HK10.out (fun e => by have : g10 = w.heap.size := e; omega)))
          | ((with_reducible refine wpList_put61 { t with boot := boot } { t with boot := boot, minted := N + 1 } w.heap.size 14 (.int .i64 (N + 1)) [.int .i64 (N + 1)] ?_ ?_ HK1.out ?_ ?_ ?_ ?_ ?_ ?_)
             · exact rfl
             · first | exact rfl | (rw [← hw1]; exact rfl)
             · exact rfl
             · exact size3
             · exact Nat.le_of_ble_eq_true rfl
             · exact one_of rfl
             · exact rfl
             intro w2 hb2 hk2
             have HK2 := hid hk2
             have X2 := hid (X1.out.trans hb2)
             clear hb2 hk2
             obtain ⟨f2, f3⟩ := Blk.cells2 (X2.out.blk HK9.out (fun e => by have : g9 = w.heap.size := e; omega)))
          | ((with_reducible refine wpList_put61 t { t with boot := boot } w.heap.size 15 (.int .i64 boot) [.int .i64 boot] ?_ ?_ HM0.out ?_ ?_ ?_ ?_ ?_ ?_)
             · exact rfl
             · first | exact rfl | (rw [← hw1]; exact rfl)
             · exact rfl
             · exact size3
             · exact Nat.le_of_ble_eq_true rfl
             · exact one_of rfl
             · exact rfl
             intro w1 hb1 hk1
             have HK1 := hid hk1
             have X1 := hid hb1
             clear hb1 hk1)
          | ((with_reducible refine wpList_load61 { t with boot := boot, minted := N + 1, l1 := ⟨A1, n1, c1⟩, l2 := ⟨A2, n2, c2⟩ } w.heap.size ?_ HK4.out ?_); exact rfl)
          | ((with_reducible refine wpList_store61 { t with boot := boot, minted := N + 1, l1 := ⟨A1, n1, c1⟩, l2 := ⟨A2, n2, c2⟩ } zeroTh (w.heap.size + 1) ?_ ?_ HM4.out ?_); exact rfl; exact rfl; intro w9 hb9 hk9))
        have hX := (X4.out.into (D' := fun k => k = w.heap.size ∨ k = w.heap.size + 1) fun k e => .inl e).trans (hb9.into (D' := fun k => k = w.heap.size ∨ k = w.heap.size + 1) fun k e => .inr e)
        have hs9 := hX.size
        have hK := (HT0.out.keep S5.out (fun _ _ x => x)).keep hX (fun j hj e => by have := hj.2; omega)
        refine bodyPost_ret (th_run3 hk9 rfl _ rfl rfl rfl) rfl ⟨⟨A1, n1, c1⟩, ⟨A2, n2, c2⟩, t.links, t.data, by rw [HOE.out]; rfl, by rw [HOE.out]; exact ⟨⟨(HA5.out.keep hX (fun k e => by omega)).1, (HB5.out.keep hX (fun k e => by omega)).1, hK.at_.lk, hK.at_.dt⟩, (HA5.out.keep hX (fun k e => by omega)).sl.mono (fun j hj => .inr ⟨by omega, by omega⟩), (HB5.out.keep hX (fun k e => by omega)).sl.mono (fun j hj => .inr ⟨by omega, by omega⟩), hK.b3.mono (fun j hj => .inl hj.1), hK.b4.mono (fun j hj => .inl hj.1)⟩, hX.done (HB.out.trans (since_below S5.out hsa)) (fun k e => by omega) (by omega)⟩
  · have HNE : Hid (N = 0) := by show _ = _; rw [HN.out]; unfold mintN; rw [if_neg hbt]
    have hbb : (t.boot != boot) = true := by simpa using hbt
    clear hbt
    obtain rfl : N = 0 := HNE.out
    · skip
      have i0 := HMY.out.id0
      have i1 := HMY.out.id1
      have b0 := HMY.out.b0
      have b1 := HMY.out.b1
      have e1 : IntKind.u64.wrap (t.id * 8192) = t.id * 8192 := wrap_u64_in (by omega) (by omega)
      have e2 : IntKind.u64.wrap boot = boot := wrap_u64_in (by omega) (by omega)
      have e3 : IntKind.u64.wrap (boot * 32) = boot * 32 := wrap_u64_in (by omega) (by omega)
      have e5 : IntKind.u64.wrap (t.id * 8192 + boot * 32) = t.id * 8192 + boot * 32 := wrap_u64_in (by omega) (by omega)
      have e6 : IntKind.u64.wrap (t.id * 8192 + boot * 32 + (1)) = C := by rw [HC2.out]; exact wrap_u64_in (by omega) (by omega)
      have HLE : Hid (O = bif rightB t.d1 (formL t.d1 ((C, 0) :: p.l1)) && rightB t.d2 (formL t.d2 ((C, 4) :: p.l2)) then ⟨{ t with boot := boot, minted := 1 }, { p with l1 := formL t.d1 ((C, 0) :: p.l1), l2 := formL t.d2 ((C, 4) :: p.l2) }, C, 0⟩ else ⟨t, p, 0, 91⟩) := by
        show _ = _
        rw [HO.out]
        unfold mintO mintL mintC
        rw [if_neg (by rw [← HN.out]; omega), ← HC.out, ← HN.out]; rfl
      have HT0 := hid (HSS.out.keep hWa.out (fun _ _ h => h))
      have HZ1 : Hid (t.l1.n + 1 ≤ 8796093022208 ∧ t.l2.n + 1 ≤ 8796093022208) := by
        have := HMY.out.z1
        have := HMY.out.z2
        exact ⟨by omega, by omega⟩
      generalize hL1 : formL t.d1 ((C, 0) :: p.l1) = L1 at *
      generalize hL2 : formL t.d2 ((C, 4) :: p.l2) = L2 at *
      have HS50 : Hid (∀ W, ThAt W t p → w.heap.size + 1 + 1 ≤ W.heap.size → Calls Try.prog 50 #[.agg #[.int .i64 t.d1, .slice t.l1.a t.l1.n t.l1.c], .int .u64 C, .int .i64 0] W fun e w' => ∃ v, e = .returned v ∧ LabF (w.heap.size + 1 + 1) t.d1 L1 w' v ∧ Below W.heap.size W w') := fun W hW hl => by rw [← hL1]; exact RetOwn.labF (set50 W t.d1 C 0 t.l1.a t.l1.n t.l1.c p.l1 hW.c1 HZ1.out.1) hl
      have HS50' : Hid (∀ W, ThAt W t p → w.heap.size + 1 + 1 ≤ W.heap.size → Calls Try.prog 50 #[.agg #[.int .i64 t.d2, .slice t.l2.a t.l2.n t.l2.c], .int .u64 C, .int .i64 4] W fun e w' => ∃ v, e = .returned v ∧ LabF (w.heap.size + 1 + 1) t.d2 L2 w' v ∧ Below W.heap.size W w') := fun W hW hl => by rw [← hL2]; exact RetOwn.labF (set50 W t.d2 C 4 t.l2.a t.l2.n t.l2.c p.l2 hW.c2 HZ1.out.2) hl
      clear hL1 hL2
      go_enter Try.func81, Try.ntmps81
      go_wp2_with (first
        | (with_reducible refine wpList_alloc61 ?_; rw [hsz]; generalize (w.alloc (.cells (thC t) 61)).alloc (.cells (thC zeroTh) 61) = wa at *; obtain ⟨⟨f0, f14, f15⟩, ⟨f2, f3⟩, f4, f5⟩ := HPF.out wa HP0.out)
        | ((with_reducible refine wpList_new26 t.d2 A2 n2 c2 ?_ ?_ ?_)
           exact rfl
           exact rfl
           have S4 := hid (S3.out.alloc (.cells #[.int .i64 t.d2, .slice A2 n2 c2] 26))
           have HG2 : Hid (Blk (W3.alloc (.cells #[.int .i64 t.d2, .slice A2 n2 c2] 26)) W3.heap.size 26 #[.int .i64 t.d2, .slice A2 n2 c2]) := Blk.new W3 26 _
           have HG1' := hid (HG1b.out.alloc (.cells #[.int .i64 t.d2, .slice A2 n2 c2] 26))
           have HA4 := hid (HA3.out.keep ((But.refl nil_ W3).alloc (.cells #[.int .i64 t.d2, .slice A2 n2 c2] 26)) (fun _ x => x.elim))
           have HB4 := hid (HB3.out.keep ((But.refl nil_ W3).alloc (.cells #[.int .i64 t.d2, .slice A2 n2 c2] 26)) (fun _ x => x.elim))
           have hs4 : W3.heap.size ≤ (W3.alloc (.cells #[.int .i64 t.d2, .slice A2 n2 c2] 26)).heap.size := by simp
           generalize W3.alloc (.cells #[.int .i64 t.d2, .slice A2 n2 c2] 26) = W4 at *
           generalize hg10 : W3.heap.size = g10 at *
           clear HS50 HS50')
        | (go_at_call 50
           with_reducible refine (HS50'.out _ (HT0.out.keep S2.out (fun _ _ x => x)).at_ (by have := S2.out.size; have := HP1.out.lt; omega)).mono ?_
           rintro e W3 ⟨v2, rfl, ⟨⟨A2, n2, c2⟩, rfl, hT2⟩, hb3⟩
           have S3 := hid (S2.out.below hb3)
           have HG1b := hid (HG1.out.below hb3 HG1.out.lt)
           have HA3 := hid (HA2.out.keep ((But.refl nil_ W2).below hb3) (fun _ x => x.elim))
           have HB3 := hid hT2
           have hs3 : W2.heap.size ≤ W3.heap.size := hb3.size
           clear hb3 hT2 f2 f3 f4 f5)
        | ((with_reducible refine wpList_new26 t.d1 A1 n1 c1 ?_ ?_ ?_)
           exact rfl
           exact rfl
           have S2 := hid (S1.out.alloc (.cells #[.int .i64 t.d1, .slice A1 n1 c1] 26))
           have HG1 : Hid (Blk (W1.alloc (.cells #[.int .i64 t.d1, .slice A1 n1 c1] 26)) W1.heap.size 26 #[.int .i64 t.d1, .slice A1 n1 c1]) := Blk.new W1 26 _
           have HA2 := hid (HA1.out.keep ((But.refl nil_ W1).alloc (.cells #[.int .i64 t.d1, .slice A1 n1 c1] 26)) (fun _ x => x.elim))
           have hs2 : W1.heap.size ≤ (W1.alloc (.cells #[.int .i64 t.d1, .slice A1 n1 c1] 26)).heap.size := by simp
           generalize W1.alloc (.cells #[.int .i64 t.d1, .slice A1 n1 c1] 26) = W2 at *
           generalize hg9 : W1.heap.size = g9 at *
           clear f2 f3 f4 f5
           obtain ⟨_, ⟨f2, f3⟩, f4, f5⟩ := HPF.out W2 (S2.out.blk HP0.out (fun x => x)))
        | (go_at_call 50
           with_reducible refine (HS50.out _ HT0.out.at_ (by have := HP1.out.lt; omega)).mono ?_
           rintro e W1 ⟨v1, rfl, ⟨⟨A1, n1, c1⟩, rfl, hT1⟩, hb1⟩
           have S1 := hid ((But.refl nil_ wa).below hb1)
           have HA1 := hid hT1
           have hs1 : wa.heap.size ≤ W1.heap.size := hb1.size
           have hla : w.heap.size + 1 < wa.heap.size := HP1.out.lt
           clear hb1 hT1 f0 f14 f15)
        | (refine wp_list_told 8 8 nil_ rfl (by decide) ?_))
      clear e1 e2 e3 e5 e6 hbb
      have hsa : w.heap.size ≤ wa.heap.size := HB.out.size
      obtain ⟨r1, hr1⟩ : ∃ z, z = rightB t.d1 L1 := ⟨_, rfl⟩
      obtain ⟨r2, hr2⟩ : ∃ z, z = rightB t.d2 L2 := ⟨_, rfl⟩
      rw [← hr1, ← hr2] at HLE
      have HR1 : Hid (∀ W, But nil_ W4 W → Calls Try.prog 52 #[.agg #[.int .i64 t.d1, .slice A1 n1 c1]] W fun e w' => e = .returned (.bool r1) ∧ Below W.heap.size W w') := fun W hW => by rw [hr1]; exact right52 W _ _ _ _ _ (HA4.out.1.since_ hW)
      have HR2 : Hid (∀ W, But nil_ W4 W → Calls Try.prog 52 #[.agg #[.int .i64 t.d2, .slice A2 n2 c2]] W fun e w' => e = .returned (.bool r2) ∧ Below W.heap.size W w') := fun W hW => by rw [hr2]; exact right52 W _ _ _ _ _ (HB4.out.1.since_ hW)
      obtain ⟨z1, hz1⟩ : ∃ z, z = !r1 := ⟨_, rfl⟩
      have HC1 := hid hz1
      clear hr1 hr2 hz1
      have HF : Hid (∀ W, But nil_ W4 W → (W.cell? ⟨g9, 0, none⟩ = some (.int .i64 t.d1) ∧ W.cell? ⟨g9, 1, none⟩ = some (.slice A1 n1 c1)) ∧ (W.cell? ⟨g10, 0, none⟩ = some (.int .i64 t.d2) ∧ W.cell? ⟨g10, 1, none⟩ = some (.slice A2 n2 c2))) := fun W hW => ⟨(hW.blk HG1'.out (fun h => h)).cells2, (hW.blk HG2.out (fun h => h)).cells2⟩
      try simp only [List.take_succ_cons, List.take_zero, List.drop_succ_cons, List.drop_zero]
      repeat (refine told_val (v := ?_) (fun _ => rfl) (fun vs W hW => ?_) ?_; rotate_left; (focus (have hf := HF.out W hW; clear hW; go_simp; exact loose_val)); simp only [Act.put, List.setIfInBounds_toArray, List.set_cons_zero, List.set_cons_succ, List.nil_append, List.cons_append, Nat.reduceAdd, Leaves.at])
      refine told_val (v := .bool r1) (fun _ => rfl) (fun vs W hW => ?_) ?_
      · go_simp
        exact loose_call (HR1.out W hW)
      simp only [Act.put, List.setIfInBounds_toArray, List.set_cons_zero, List.set_cons_succ, List.nil_append, List.cons_append, Nat.reduceAdd, Leaves.at]
      refine told_val (v := .bool z1) (hw := fun _ => rfl) (hr := fun vs W hW => by rw [HC1.out]; clear hW; go_simp; exact loose_val) ?_
      simp only [Act.put, List.setIfInBounds_toArray, List.set_cons_zero, List.set_cons_succ, List.nil_append, List.cons_append, Nat.reduceAdd, Leaves.at]
      repeat (refine told_val (v := ?_) (fun _ => rfl) (fun vs W hW => ?_) ?_; rotate_left; (focus (have hf := HF.out W hW; clear hW; go_simp; exact loose_val)); simp only [Act.put, List.setIfInBounds_toArray, List.set_cons_zero, List.set_cons_succ, List.nil_append, List.cons_append, Nat.reduceAdd, Leaves.at])
      repeat (refine told_not (b := z1) (v := ?_) (fun _ => Bool.casesOn z1 rfl rfl) (fun hb vs W hW => ?_) ?_; rotate_left; (focus (have hf := HF.out W hW; clear hW; (try simp only [hb, cond_true, cond_false]); go_simp; exact loose_val)); simp only [Act.put, List.setIfInBounds_toArray, List.set_cons_zero, List.set_cons_succ, List.nil_append, List.cons_append, Nat.reduceAdd, Leaves.at])
      refine told_not (b := z1) (v := .bool r2) (fun _ => Bool.casesOn z1 rfl rfl) (fun hb vs W hW => ?_) ?_
      · try simp only [hb, cond_true, cond_false]
        go_simp
        exact loose_call (HR2.out W hW)
      simp only [Act.put, List.setIfInBounds_toArray, List.set_cons_zero, List.set_cons_succ, List.nil_append, List.cons_append, Nat.reduceAdd, Leaves.at]
      repeat (refine told_not (b := z1) (v := ?_) (fun _ => Bool.casesOn z1 rfl rfl) (fun hb vs W hW => ?_) ?_; rotate_left; (focus (have hf := HF.out W hW; clear hW; (try simp only [hb, cond_true, cond_false]); go_simp; exact loose_val)); simp only [Act.put, List.setIfInBounds_toArray, List.set_cons_zero, List.set_cons_succ, List.nil_append, List.cons_append, Nat.reduceAdd, Leaves.at])
      refine told_val (v := .bool (z1 || !r2)) (hw := fun _ => rfl) (hr := fun vs W hW => by clear hW; cases z1 <;> (go_simp; exact loose_val)) ?_
      simp only [Act.put, List.setIfInBounds_toArray, List.set_cons_zero, List.set_cons_succ, List.nil_append, List.cons_append, Nat.reduceAdd, Leaves.at]
      refine told_nil ?_
      intro vs W5 hW5 hok hap
      clear hap
      dsimp only
      have S5 := hid (S4.out.trans hW5)
      have HA5 := hid (HA4.out.keep hW5 (fun _ x => x.elim))
      have HB5 := hid (HB4.out.keep hW5 (fun _ x => x.elim))
      have HK9 := hid (hW5.blk HG1'.out (fun h => h))
      have HK10 := hid (hW5.blk HG2.out (fun h => h))
      have hs5 : W4.heap.size ≤ W5.heap.size := hW5.size
      clear hok hW5 HF HR1 HR2
      have HM0 := hid (S5.out.blk HP0.out (fun h => h))
      have HM1 := hid (S5.out.blk HP1.out (fun h => h))
      generalize hq : (z1 || !r2) = q at *
      have HQ := hid hq
      clear hq
      cases q with
      | true =>
        have HOE : Hid (O = ⟨t, p, 0, 91⟩) := by
          show _ = _
          rw [HLE.out]
          have : (r1 && r2) = false := by have := HQ.out; rw [HC1.out] at this; revert this; cases r1 <;> cases r2 <;> simp
          rw [this]; rfl
        go_wp2_with (first
          | ((with_reducible refine wpList_load61 t w.heap.size ?_ HM0.out ?_); exact rfl)
          | ((with_reducible refine wpList_store61 t zeroTh (w.heap.size + 1) ?_ ?_ HM1.out ?_); exact rfl; exact rfl; intro w9 hb9 hk9))
        have hX := (S5.out.into (D' := fun k => k = w.heap.size + 1) (fun _ x => x.elim)).trans hb9
        have hs9 := hX.size
        refine bodyPost_ret (th_run3 hk9 rfl _ rfl rfl rfl) rfl ⟨t.l1, t.l2, t.links, t.data, by rw [HOE.out]; rfl, by rw [HOE.out]; exact (HT0.out.keep hX (fun j hj e => by have := hj.2; omega)).mono fun j hj => .inl hj.1, hX.done HB.out (fun k e => by omega) (by omega)⟩
      | false =>
        have HOE : Hid (O = ⟨{ t with boot := boot, minted := 1 }, { p with l1 := L1, l2 := L2 }, C, 0⟩) := by
          show _ = _
          rw [HLE.out]
          have : (r1 && r2) = true := by have := HQ.out; rw [HC1.out] at this; revert this; cases r1 <;> cases r2 <;> simp
          rw [this]; rfl
        go_wp2_with (first
          | ((with_reducible refine wpList_put61 { t with boot := boot, minted := 1, l1 := ⟨A1, n1, c1⟩ } { t with boot := boot, minted := 1, l1 := ⟨A1, n1, c1⟩, l2 := ⟨A2, n2, c2⟩ } w.heap.size 4 (.agg #[.int .i64 t.d2, .slice A2 n2 c2]) [.int .i64 t.d2, .slice A2 n2 c2] ?_ ?_ HK3.out ?_ ?_ ?_ ?_ ?_ ?_)
             · exact rfl
             · first | exact rfl | (rw [← hw1]; exact rfl)
             · exact rfl
             · exact size26
             · exact Nat.le_of_ble_eq_true rfl
             · exact one_label _ _ _ _
             · exact rfl
             intro w4 hb4 hk4
             have HK4 := hid hk4
             have X4 := hid (X3.out.trans hb4)
             have HM4 := hid (X4.out.blk HM1.out (fun e => by have : w.heap.size + 1 = w.heap.size := e; omega))
             clear hb4 hk4 f2 f3)
          | ((with_reducible refine wpList_put61 { t with boot := boot, minted := 1 } { t with boot := boot, minted := 1, l1 := ⟨A1, n1, c1⟩ } w.heap.size 2 (.agg #[.int .i64 t.d1, .slice A1 n1 c1]) [.int .i64 t.d1, .slice A1 n1 c1] ?_ ?_ HK2.out ?_ ?_ ?_ ?_ ?_ ?_)
             · exact rfl
             · first | exact rfl | (rw [← hw1]; exact rfl)
             · exact rfl
             · exact size26
             · exact Nat.le_of_ble_eq_true rfl
             · exact one_label _ _ _ _
             · exact rfl
             intro w3 hb3 hk3
             have HK3 := hid hk3
             have X3 := hid (X2.out.trans hb3)
             clear hb3 hk3 f2 f3
             obtain ⟨f2, f3⟩ := Blk.cells2 (X3.out.blk HK10.out (fun e => by have : g10 = w.heap.size := e; omega)))
          | ((with_reducible refine wpList_put61 { t with boot := boot } { t with boot := boot, minted := 1 } w.heap.size 14 (.int .i64 (1)) [.int .i64 (1)] ?_ ?_ HK1.out ?_ ?_ ?_ ?_ ?_ ?_)
             · exact rfl
             · first | exact rfl | (rw [← hw1]; exact rfl)
             · exact rfl
             · exact size3
             · exact Nat.le_of_ble_eq_true rfl
             · exact one_of rfl
             · exact rfl
             intro w2 hb2 hk2
             have HK2 := hid hk2
             have X2 := hid (X1.out.trans hb2)
             clear hb2 hk2
             obtain ⟨f2, f3⟩ := Blk.cells2 (X2.out.blk HK9.out (fun e => by have : g9 = w.heap.size := e; omega)))
          | ((with_reducible refine wpList_put61 t { t with boot := boot } w.heap.size 15 (.int .i64 boot) [.int .i64 boot] ?_ ?_ HM0.out ?_ ?_ ?_ ?_ ?_ ?_)
             · exact rfl
             · first | exact rfl | (rw [← hw1]; exact rfl)
             · exact rfl
             · exact size3
             · exact Nat.le_of_ble_eq_true rfl
             · exact one_of rfl
             · exact rfl
             intro w1 hb1 hk1
             have HK1 := hid hk1
             have X1 := hid hb1
             clear hb1 hk1)
          | ((with_reducible refine wpList_load61 { t with boot := boot, minted := 1, l1 := ⟨A1, n1, c1⟩, l2 := ⟨A2, n2, c2⟩ } w.heap.size ?_ HK4.out ?_); exact rfl)
          | ((with_reducible refine wpList_store61 { t with boot := boot, minted := 1, l1 := ⟨A1, n1, c1⟩, l2 := ⟨A2, n2, c2⟩ } zeroTh (w.heap.size + 1) ?_ ?_ HM4.out ?_); exact rfl; exact rfl; intro w9 hb9 hk9))
        have hX := (X4.out.into (D' := fun k => k = w.heap.size ∨ k = w.heap.size + 1) fun k e => .inl e).trans (hb9.into (D' := fun k => k = w.heap.size ∨ k = w.heap.size + 1) fun k e => .inr e)
        have hs9 := hX.size
        have hK := (HT0.out.keep S5.out (fun _ _ x => x)).keep hX (fun j hj e => by have := hj.2; omega)
        refine bodyPost_ret (th_run3 hk9 rfl _ rfl rfl rfl) rfl ⟨⟨A1, n1, c1⟩, ⟨A2, n2, c2⟩, t.links, t.data, by rw [HOE.out]; rfl, by rw [HOE.out]; exact ⟨⟨(HA5.out.keep hX (fun k e => by omega)).1, (HB5.out.keep hX (fun k e => by omega)).1, hK.at_.lk, hK.at_.dt⟩, (HA5.out.keep hX (fun k e => by omega)).sl.mono (fun j hj => .inr ⟨by omega, by omega⟩), (HB5.out.keep hX (fun k e => by omega)).sl.mono (fun j hj => .inr ⟨by omega, by omega⟩), hK.b3.mono (fun j hj => .inl hj.1), hK.b4.mono (fun j hj => .inl hj.1)⟩, hX.done (HB.out.trans (since_below S5.out hsa)) (fun k e => by omega) (by omega)⟩
theorem mint81 (w : World) (t : Th) (p : Tl) (boot : Int) (h : ThAt w t p) (hm : Minty t boot) : Calls Try.prog 81 #[.agg (thC t), .int .i64 boot] w fun e w' => RetMint (mintO t p boot) w e w' :=
  (mint81s w t p boot _ h.s h hm).mono fun _ _ ⟨a, b, c, d, he, ht, hb⟩ => ⟨a, b, c, d, he, ht.at_, hb⟩
end Go.Proofs.Ytndohmimcbmhdaa

/- The chapter's example of gates. -/
set_option linter.unusedVariables false
set_option linter.unusedSimpArgs false
namespace Go.Proofs.Ytndohmimcbmhdaa
open Go.RowKit Go.Sort

/-- The example's gate. -/
def gateT (a : Sl) : Th := { zeroTh with id := 67, kind := 3, d1 := 2, l1 := a, d2 := 2, quota := 1, value := 9 }
def gateL : Tl := ⟨[(540673, 0)], [], [], []⟩
theorem loose_mkgate {o : Oper} {a : Act} {W : World} {x2 x3 : Operand} (s : Sl) (ho : o.op = .build 61 #[(0, .const (.int .u64 67)), (1, .const (.int .i64 3)), (2, x2), (3, x3), (4, .const (.int .i64 1)), (12, .const (.int .u64 9))]) (h2 : a.eval x2 = .agg #[.int .i64 2, .slice s.a s.n s.c]) (h3 : a.eval x3 = .agg #[.int .i64 2, .slice none 0 0]) :
    (execOp a.eval o).run Try.prog W = .ok (.value (.agg (thC (gateT s)))) W := by
  have hz := th_zero
  unfold execOp
  cases hq : Try.prog.info? 61 with
  | none => rw [hq] at hz; cases hz
  | some i =>
    rw [hq] at hz
    have hz' : i.zero = some thZ := hz
    simp only [ho, List.map_toArray, List.map_cons, List.map_nil, h2, h3]
    go_simp
    rfl
theorem wpList_mkgate {ops : Array Oper} {rest : List Oper} {a : Act} {w : World} {Q : Exit → Act → World → Prop} {d : Tmp} {x2 x3 : Operand} {ty1 : TypeId} {p1 : String} {f1 : Array Edge} (s : Sl) (h2 : a.eval x2 = .agg #[.int .i64 2, .slice s.a s.n s.c]) (h3 : a.eval x3 = .agg #[.int .i64 2, .slice none 0 0])
    (h : wpList Try.prog ops Q rest (a.put (some d) (.agg (thC (gateT s)))) w) :
    wpList Try.prog ops Q ({ dst := some d, op := .build 61 #[(0, .const (.int .u64 67)), (1, .const (.int .i64 3)), (2, x2), (3, x3), (4, .const (.int .i64 1)), (12, .const (.int .u64 9))], type := ty1, pos := p1, after := f1, guard := none } :: rest) a w :=
  Great.wpList_runTo rfl _ rfl _ w (loose_mkgate s rfl h2 h3) h
def mintedT : Th := { threadT with boot := 0, minted := 1 }
def mintedL : Tl := ⟨[(540673, 0)], [(540673, 4)], [], []⟩
theorem minted_alive : mintO threadT emptyL 0 = ⟨mintedT, mintedL, 540673, 0⟩ := by kernel_rfl
theorem thread_minty : Minty threadT 0 := by constructor <;> decide
theorem thread_at (w : World) : ThAt w threadT emptyL := ⟨CatsAt.nil_, CatsAt.nil_, CatsAt.nil_, BytesAt.nil_⟩
theorem thread_s (w : World) : ThS (fun _ => False) w threadT emptyL := ⟨thread_at w, fun h => absurd h (by decide), fun h => absurd h (by decide), fun h => absurd h (by decide), fun h => absurd h (by decide)⟩
theorem thru_alive (a : Sl) : thruB threadT emptyL (gateT a) gateL 2 [(540673, 0)] 2 [] = true := by kernel_rfl
def goneT : Th := { threadT with r0 := 9 }
theorem level_own : levelL 2 [(540673, 0)] 540673 = 0 := by kernel_rfl

set_option maxHeartbeats 8000000 in
set_option maxRecDepth 100000 in
theorem alive77 (w : World) : Calls Try.prog 77 #[] w fun e w' => e = .returned (.bool true) ∧ Below w.heap.size w w' := by
  have mixed : Try.prog.follows .mixedOrders = true := by kernel_rfl
  have HMA := hid minted_alive
  have HMI : Hid (∀ W, Calls Try.prog 80 #[.agg (thC threadT), .int .i64 0] W fun e w' => ∃ a b c d : Sl, e = .returned (.tuple #[.agg (thC (mintedT.slices a b c d)), .int .u64 540673, .int .i64 0]) ∧ ThAt w' (mintedT.slices a b c d) mintedL ∧ Below W.heap.size W w') := fun W => by
    have := mint80 W threadT emptyL 0 (thread_at W) thread_minty
    rw [minted_alive] at this
    exact this
  go_enter Try.func77, Try.ntmps77
  go_wp2_with (first
    | (go_at_call 120
       with_reducible refine (thread120 _).mono ?_
       rintro e W1 ⟨rfl, hb1⟩
       have HB1 := hid hb1
       clear hb1)
    | (go_at_call 80
       with_reducible refine (HMI.out _).mono ?_
       rintro e W2 ⟨a, b, c, d, rfl, ha, hb2⟩
       have HB2 := hid (HB1.out.trans (hb2.mono HB1.out.size))
       have HA2 := hid ha
       clear ha hb2)
    | ((with_reducible refine wpList_new61 (gateT a) ?_ ?_ ?_)
       exact rfl
       exact rfl
       have HB4 := hid (HB3.out.alloc HB3.out.size (.cells (thC (gateT a)) 61))
       have HG4 : Hid (Blk (W3.alloc (.cells (thC (gateT a)) 61)) W3.heap.size 61 (thC (gateT a))) := Blk.new W3 61 _
       have HG3' := hid (HG3.out.alloc (.cells (thC (gateT a)) 61))
       have S4 : Hid (But nil_ W3 (W3.alloc (.cells (thC (gateT a)) 61))) := (But.refl nil_ W3).alloc _
       generalize W3.alloc (.cells (thC (gateT a)) 61) = W4 at *
       generalize W3.heap.size = g4 at *
       clear f2 f3)
    | ((with_reducible refine wpList_new61 (mintedT.slices a b c d) ?_ ?_ ?_)
       exact rfl
       exact rfl
       have HB3 := hid (HB2.out.alloc HB2.out.size (.cells (thC (mintedT.slices a b c d)) 61))
       have HG3 : Hid (Blk (W2.alloc (.cells (thC (mintedT.slices a b c d)) 61)) W2.heap.size 61 (thC (mintedT.slices a b c d))) := Blk.new W2 61 _
       have S3 : Hid (But nil_ W2 (W2.alloc (.cells (thC (mintedT.slices a b c d)) 61))) := (But.refl nil_ W2).alloc _
       generalize W2.alloc (.cells (thC (mintedT.slices a b c d)) 61) = W3 at *
       generalize W2.heap.size = g3 at *
       have f2 : W3.cell? ⟨g3, 2, none⟩ = some (.int .i64 2) := (Blk.cell HG3.out 2).trans rfl
       have f3 : W3.cell? ⟨g3, 3, none⟩ = some (.slice a.a a.n a.c) := (Blk.cell HG3.out 3).trans rfl)
    | ((with_reducible refine wpList_mkgate a ?_ ?_ ?_); exact rfl; exact rfl))
  have HA4 := hid ((HA2.out.since_ S3.out).since_ S4.out)
  have HCALL : Hid (∀ W, But nil_ W4 W → Calls Try.prog 78 #[.agg (thC threadT), .agg (thC (gateT a)), .agg #[.int .i64 2, .slice a.a a.n a.c, .int .i64 2, .slice none 0 0]] W fun x w' => RetS (fun _ => False) goneT gateL 0 W x w') := fun W hW => by
    have hA := HA4.out.since_ hW
    have hn : a.n = 1 := by have := hA.c1.len; exact this.symm
    have := through78 W threadT (gateT a) emptyL gateL 2 a.a a.n a.c [(540673, 0)] 2 none 0 0 [] (fun _ => False) (thread_s W) (thread_at W) ⟨hA.c1, CatsAt.nil_, CatsAt.nil_, BytesAt.nil_⟩ ⟨by decide, by decide⟩ ⟨by show a.n ≤ _; omega, Nat.zero_le _⟩ (by decide) (by decide) hA.c1 CatsAt.nil_ (by omega) (by omega)
    rw [thru_alive] at this
    exact this.mono fun x w' ⟨a', b', c', d', e, ht, hb⟩ => ⟨a', b', c', d', e, ht.mono fun k hk => hk.elim (fun h => .inl h.2) .inr, hb⟩
  refine wp_region_toldz 12 mixed (by kernel_rfl) ?_
  simp only [List.take_succ_cons, List.take_zero, List.drop_succ_cons, List.drop_zero]
  refine z_val (v := .agg (thC threadT)) (fun _ => rfl) (fun vs W hW => ?_) ?_
  · clear hW
    go_simp
    exact loose_call (thread120 W)
  simp only [Act.put, List.setIfInBounds_toArray, List.set_cons_zero, List.set_cons_succ, List.nil_append, List.cons_append, Nat.reduceAdd]
  refine z_val (v := .agg (thC (gateT a))) (fun _ => rfl) (fun vs W hW => loose_load61 rfl rfl (hW.blk HG4.out (fun h => h))) ?_
  simp only [Act.put, List.setIfInBounds_toArray, List.set_cons_zero, List.set_cons_succ, List.nil_append, List.cons_append, Nat.reduceAdd]
  refine z_val (v := ?_) (fun _ => rfl) (fun vs W hW => ?_) ?_
  rotate_left
  · clear hW
    go_simp
    exact loose_val
  simp only [Act.put, List.setIfInBounds_toArray, List.set_cons_zero, List.set_cons_succ, List.nil_append, List.cons_append, Nat.reduceAdd]
  refine z_val (v := .agg #[.int .i64 2, .slice a.a a.n a.c]) (fun _ => rfl) (fun vs W hW => loose_load (cur := (mintedT.slices a b c d).cells) (vs := [.int .i64 2, .slice a.a a.n a.c]) rfl rfl (hW.blk HG3'.out (fun h => h)) (agg_of_struct Try.underlying26) size26 rfl) ?_
  simp only [Act.put, List.setIfInBounds_toArray, List.set_cons_zero, List.set_cons_succ, List.nil_append, List.cons_append, Nat.reduceAdd]
  refine z_val (v := .agg #[.int .i64 2, .slice none 0 0]) (fun _ => rfl) (fun vs W hW => ?_) ?_
  · clear hW
    go_simp
    exact loose_val
  simp only [Act.put, List.setIfInBounds_toArray, List.set_cons_zero, List.set_cons_succ, List.nil_append, List.cons_append, Nat.reduceAdd]
  refine z_val (v := .agg #[.int .i64 2, .slice a.a a.n a.c, .int .i64 2, .slice none 0 0]) (fun _ => rfl) (fun vs W hW => ?_) ?_
  · clear hW
    go_simp
    exact loose_val
  simp only [Act.put, List.setIfInBounds_toArray, List.set_cons_zero, List.set_cons_succ, List.nil_append, List.cons_append, Nat.reduceAdd]
  refine z_part (PartN W4.heap.size goneT gateL 0) PartN.steady (fun _ => rfl) (fun vs W Good hW hd => ?_) ?_
  · clear hd
    go_simp
    exact z_callPN (((HCALL.out W hW)).mono fun _ w' ⟨a', b', c', d', e, ht, hbl⟩ => ⟨_, e, ⟨a', b', c', d', rfl, ht.mono fun k hk => hk.elim (fun h => h.elim) (fun h => .inr h)⟩, hbl⟩)
  simp only [Act.put, List.setIfInBounds_toArray, List.set_cons_zero, List.set_cons_succ, List.nil_append, List.cons_append, Nat.reduceAdd]
  refine z_part (PartN W4.heap.size goneT gateL 0) PartN.steady (fun _ => rfl) (fun vs W Good hW hd => z_movPN (hd ⟨6, .data⟩ (by simp) rfl _ rfl)) ?_
  simp only [Act.put, List.setIfInBounds_toArray, List.set_cons_zero, List.set_cons_succ, List.nil_append, List.cons_append, Nat.reduceAdd]
  refine z_part (PartT W4.heap.size goneT gateL) PartT.steady (fun _ => rfl) (fun vs W Good hW hd => z_thPN rfl rfl (hd ⟨7, .data⟩ (by simp) rfl _ rfl)) ?_
  simp only [Act.put, List.setIfInBounds_toArray, List.set_cons_zero, List.set_cons_succ, List.nil_append, List.cons_append, Nat.reduceAdd]
  refine z_val' (v := .int .i64 0) (fun _ => rfl) (fun vs W Good hW hd => z_numPN rfl rfl (hd ⟨7, .data⟩ (by simp) rfl _ rfl)) ?_
  simp only [Act.put, List.setIfInBounds_toArray, List.set_cons_zero, List.set_cons_succ, List.nil_append, List.cons_append, Nat.reduceAdd]
  refine z_box 61 (thC zeroTh) (fun _ => rfl) (fun vs W hW => alloc_run61 rfl) ?_
  simp only [Act.put, List.setIfInBounds_toArray, List.set_cons_zero, List.set_cons_succ, List.nil_append, List.cons_append, Nat.reduceAdd]
  refine z_fill 10 8 61 (thC zeroTh) PutA rfl PutA.steady (by kernel_rfl) (fun _ => rfl) (fun vs W Good hW hd g hg hk => by
    obtain ⟨u, hu⟩ := PartT.th (lo := 0) (hi := 0) (hd ⟨8, .data⟩ (by simp) rfl _ rfl)
    exact z_putA rfl rfl hg rfl hu hk) ?_
  simp only [Act.put, List.setIfInBounds_toArray, List.set_cons_zero, List.set_cons_succ, List.nil_append, List.cons_append, Nat.reduceAdd]
  refine z_nil ?_
  intro vs W hW hv hp hb hf
  obtain ⟨lo, hi, a', b', c', d', e8, hS⟩ := hp 8 _ rfl
  obtain ⟨u', g, e10, e8', hk⟩ := hf 11 10 8 _ rfl
  have eu : thC (goneT.slices a' b' c' d') = thC u' := Value.agg.inj (e8.symm.trans e8')
  rw [← eu] at hk
  dsimp only
  rw [e10, e8]
  have HS5 := hid hS.at_
  have HG5 := hid hk
  have HA5 := hid (HA4.out.since_ hW)
  have HC5 : Hid (CatsAt W W.heap.size a.a a.n a.c [(540673, 0)]) := HA5.out.c1
  have HC6 : Hid (CatsAt W W.heap.size a'.a a'.n a'.c [(540673, 0)]) := HS5.out.c1
  have HB5 := hid (HB4.out.trans (since_below hW HB4.out.size))
  have f2 : W.cell? ⟨g3, 2, none⟩ = some (.int .i64 2) := (Blk.cell (hW.blk HG3'.out (fun h => h)) 2).trans rfl
  have f3 : W.cell? ⟨g3, 3, none⟩ = some (.slice a.a a.n a.c) := (Blk.cell (hW.blk HG3'.out (fun h => h)) 3).trans rfl
  clear hv hp hb hf e10 e8 e8' eu hk hS hW
  generalize vs 6 = v6
  generalize vs 7 = v7
  unfold ptr
  go_wp2_with (first
    | (go_at_call 37
       with_reducible refine (level_below W6 2 a'.a a'.n a'.c [(540673, 0)] 540673 (HC6.out.since_ S6.out)).mono ?_
       rw [level_own]
       rintro e W7 ⟨rfl, hb7⟩
       have HB7 := hid (HB6.out.trans (hb7.mono HB6.out.size))
       clear hb7)
    | (go_at_call 37
       with_reducible refine (level_below W 2 a.a a.n a.c [(540673, 0)] 540673 HC5.out).mono ?_
       rw [level_own]
       rintro e W6 ⟨rfl, hb6⟩
       have S6 := hid ((But.refl nil_ W).below hb6)
       have HB6 := hid (HB5.out.trans (hb6.mono HB5.out.size))
       clear hb6 f2 f3
       have f10 : W6.cell? ⟨g, 10, none⟩ = some (.int .u64 9) := (Blk.cell (S6.out.blk HG5.out (fun h => h)) 10).trans rfl
       have f2 : W6.cell? ⟨g, 2, none⟩ = some (.int .i64 2) := (Blk.cell (S6.out.blk HG5.out (fun h => h)) 2).trans rfl
       have f3 : W6.cell? ⟨g, 3, none⟩ = some (.slice a'.a a'.n a'.c) := (Blk.cell (S6.out.blk HG5.out (fun h => h)) 3).trans rfl))
  go_ret
  exact ⟨rfl, HB7.out⟩
end Go.Proofs.Ytndohmimcbmhdaa
