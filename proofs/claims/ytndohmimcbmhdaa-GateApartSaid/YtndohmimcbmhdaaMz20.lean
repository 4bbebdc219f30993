/- The document's Copy of a thing. -/
import Derived.Test.YtndohmimcbmhdaaMz19
set_option linter.unusedVariables false
set_option linter.unusedSimpArgs false
namespace Go.Proofs.Ytndohmimcbmhdaa
open Go.RowKit Go.Sort

/-- A label of the call's own. -/
def LabF (B : Nat) (d : Int) (cs : List (Int × Int)) (W : World) (v : Value) : Prop := ∃ s : Sl, v = .agg #[.int .i64 d, .slice s.a s.n s.c] ∧ CatsF B cs W s
theorem LabF.stable {B : Nat} {d : Int} {cs : List (Int × Int)} {D : Nat → Prop} {w : World} (hD : ∀ k, D k → k < B) : (Leaves.rel (LabF B d cs)).stable D w := fun _ _ _ _ hb ⟨s, e, h⟩ => ⟨s, e, h.keep hb hD⟩
theorem RetOwn.labF {d : Int} {cs : List (Int × Int)} {f : Nat} {args : Array Value} {w : World} {B : Nat} (h : Calls Try.prog f args w fun e w' => RetOwn d cs w e w') (hB : B ≤ w.heap.size) : Calls Try.prog f args w fun e w' => ∃ v, e = .returned v ∧ LabF B d cs w' v ∧ Below w.heap.size w w' :=
  h.mono fun _ _ ⟨A, n, c, he, ho, hb⟩ => ⟨_, he, ⟨⟨A, n, c⟩, rfl, own_at ho, fun a e => by
    rcases ho with ⟨h1, _⟩ | ⟨g, cap, tl, h1, hg, _⟩
    · injection h1 with h1; exact nomatch (show (none : Option Addr) = some a from h1.symm.trans e)
    · injection h1 with h1; have := (show some (⟨g, 0, none⟩ : Addr) = some a from h1.symm.trans e); cases this; exact Nat.le_trans hB hg⟩, hb⟩
theorem size26 : (Try.prog.info? 26).map (·.size) = some 2 := by kernel_rfl
theorem one_label (d : Int) (A : Option Addr) (n c : Nat) : ∀ u ∈ [Value.int .i64 d, .slice A n c], u.oneCell' = true := fun u hu => by
  simp only [List.mem_cons, List.not_mem_nil, or_false] at hu
  rcases hu with rfl | rfl <;> rfl
theorem Blk.cells26 {w : World} {g : Nat} {t : Th} (h : Blk w g 61 (thC t)) :
    (w.cell? ⟨g, 2, none⟩ = some (.int .i64 t.d1) ∧ w.cell? ⟨g, 3, none⟩ = some (.slice t.l1.a t.l1.n t.l1.c)) ∧ (w.cell? ⟨g, 4, none⟩ = some (.int .i64 t.d2) ∧ w.cell? ⟨g, 5, none⟩ = some (.slice t.l2.a t.l2.n t.l2.c)) ∧ w.cell? ⟨g, 8, none⟩ = some (.slice t.links.a t.links.n t.links.c) ∧ w.cell? ⟨g, 9, none⟩ = some (.slice t.data.a t.data.n t.data.c) :=
  ⟨⟨(Blk.cell h 2).trans rfl, (Blk.cell h 3).trans rfl⟩, ⟨(Blk.cell h 4).trans rfl, (Blk.cell h 5).trans rfl⟩, (Blk.cell h 8).trans rfl, (Blk.cell h 9).trans rfl⟩

theorem ownBlock_fresh {B : Nat} {A : Option Addr} {n c : Nat} (h : FreshA B A) {g : Nat} (e : (Value.slice A n c).ownBlock = some g) : B ≤ g := by
  cases A with
  | none => cases e
  | some a => cases e; exact h a rfl
set_option maxHeartbeats 4000000 in
set_option maxRecDepth 100000 in
theorem copy72 (w : World) (t : Th) (p : Tl) (h : ThAt w t p) (z1 : t.l1.n ≤ 8796093022208) (z2 : t.l2.n ≤ 8796093022208) (z3 : t.links.n ≤ 8796093022208) (z4 : t.data.n ≤ 140737488355328) :
    Calls Try.prog 72 #[.agg (thC t)] w fun e w' => RetTh t p w e w' := by
  have mixed : Try.prog.follows .mixedOrders = true := by kernel_rfl
  obtain ⟨i0, hi0, hz0, hz1, hz2⟩ := info_parts link_info
  obtain ⟨j0, hj0, hy0, hy1, hy2⟩ := info_parts byte_info
  obtain ⟨q0, q1, q2⟩ := two_blk w (thC t) (thC zeroTh) 61 61
  have HB := hid q0
  have HP1 := hid q1
  have HP2 := hid q2
  have H := hid (ThAt.in_ h q0)
  have HL1 := hid h.lk.len
  have HL2 := hid h.dt.len
  have HF2 := hid h.dt.fit
  have hsz : (w.alloc (.cells (thC t) 61)).heap.size = w.heap.size + 1 := by simp
  clear h q0 q1 q2
  go_enter Try.func72, Try.ntmps72
  go_wp2_with (first | (refine wpList_alloc61 ?_; rw [hsz]) | (refine wp_list_toldw 5 5 (at_ w.heap.size) rfl (by decide) ?_))
  clear hsz
  simp only [Act.put, List.setIfInBounds_toArray, List.set_cons_zero, List.set_cons_succ, List.nil_append, List.cons_append, Nat.reduceAdd, Leaves.at]
  generalize (w.alloc (.cells (thC t) 61)).alloc (.cells (thC zeroTh) 61) = wa at *
  have hlt := HP1.out.lt
  have hlt2 : w.heap.size + 1 < wa.heap.size := HP2.out.lt
  have hD : ∀ k, at_ w.heap.size k → w.heap.size ≤ k := fun k e => Nat.le_of_eq e.symm
  have hD2 : ∀ k, at_ w.heap.size k → k < wa.heap.size := fun k e => by have : k = w.heap.size := e; omega
  have HF : Hid (∀ W, But nil_ wa W → W.cell? ⟨w.heap.size, 2, none⟩ = some (.int .i64 t.d1) ∧ W.cell? ⟨w.heap.size, 3, none⟩ = some (.slice t.l1.a t.l1.n t.l1.c)) := fun W hW => (Blk.cells26 (hW.blk HP1.out (fun h => h))).1
  try simp only [List.take_succ_cons, List.take_zero, List.drop_succ_cons, List.drop_zero]
  repeat (refine told_early (v := ?_) rfl (fun _ => rfl) (fun vs W hW => ?_) ?_; rotate_left; (focus (have hf := HF.out W hW; clear hW; go_simp; exact loose_early)); simp only [Act.put, List.setIfInBounds_toArray, List.set_cons_zero, List.set_cons_succ, List.nil_append, List.cons_append, Nat.reduceAdd, Leaves.at])
  refine told_rel (LabF wa.heap.size t.d1 p.l1) (LabF.stable hD2) (fun _ => rfl) (fun vs W hW hd => ?_) ?_
  · clear hd; go_simp; exact loose_callR (RetOwn.labF (copy39 W _ _ _ _ _ (H.out.but hW (Nat.le_of_lt hlt) hD).c1 z1) hW.size)
  simp only [Act.put, List.setIfInBounds_toArray, List.set_cons_zero, List.set_cons_succ, List.nil_append, List.cons_append, Nat.reduceAdd, Leaves.at]
  repeat (refine told_val (v := ?_) (fun _ => rfl) (fun vs W hW => ?_) ?_; rotate_left; (focus (clear hW; go_simp; exact loose_val)); simp only [Act.put, List.setIfInBounds_toArray, List.set_cons_zero, List.set_cons_succ, List.nil_append, List.cons_append, Nat.reduceAdd, Leaves.at])
  refine told_write0 (C := (Got1 w.heap.size wa.heap.size t p)) (hs := Got1.stable hD2) (hno := by kernel_rfl) (h0 := rfl) (hw := fun _ => rfl) (hr := fun vs W hW hd => ?_) ?_
  · obtain ⟨s, e, hs⟩ := hd ⟨2, .data⟩ (by simp) rfl _ rfl (fun h => by cases h); clear hd; exact loose_store (v := .agg #[.int .i64 t.d1, .slice s.a s.n s.c]) (vs := [.int .i64 t.d1, .slice s.a s.n s.c]) (cur := t.cells) rfl rfl e (hW.blk HP1.out (fun h => h)) rfl size26 (Nat.le_of_ble_eq_true rfl) (one_label _ _ _ _) rfl (fun W' hb hk => ⟨s, hk, hs.keep hb hD2⟩)
  simp only [Act.put, List.setIfInBounds_toArray, List.set_cons_zero, List.set_cons_succ, List.nil_append, List.cons_append, Nat.reduceAdd, Leaves.at]
  refine told_nil ?_
  intro vs W1 hW1 hok hap hwr
  have hC := hwr 4 _ rfl (noWr_of rfl)
  clear hap hwr
  dsimp only
  obtain ⟨a, hk1, ha⟩ := hC
  have HK1 := hid hk1
  have HA := hid ha
  have HX := hid (hW1.blk HP2.out (fun h => by have : w.heap.size + 1 = w.heap.size := h; omega))
  have HB1 := hid (hW1.done HB.out hD (Nat.le_of_lt hlt))
  have H1 : Hid (ThIn W1 w.heap.size t p) := by
    have hbl := hW1.done (Below.refl w.heap.size wa) hD (Nat.le_of_lt hlt)
    exact ⟨H.out.c1.below hbl, H.out.c2.below hbl, H.out.lk.below hbl, H.out.dt.below hbl⟩
  have hlt1 : w.heap.size < W1.heap.size := HK1.out.lt
  have hsz1 : wa.heap.size ≤ W1.heap.size := hW1.size
  clear hok hW1 hk1 ha HP1 HF HB H HP2
  have hD3 : ∀ k, at_ w.heap.size k → k < W1.heap.size := fun k e => by have : k = w.heap.size := e; omega
  have HF : Hid (∀ W, But nil_ W1 W → W.cell? ⟨w.heap.size, 4, none⟩ = some (.int .i64 t.d2) ∧ W.cell? ⟨w.heap.size, 5, none⟩ = some (.slice t.l2.a t.l2.n t.l2.c)) := fun W hW => (Blk.cells26 (hW.blk HK1.out (fun h => h))).2.1
  go_wp2_with (refine wp_list_toldw 5 5 (at_ w.heap.size) rfl (by decide) ?_)
  try simp only [List.take_succ_cons, List.take_zero, List.drop_succ_cons, List.drop_zero]
  repeat (refine told_early (v := ?_) rfl (fun _ => rfl) (fun vs W hW => ?_) ?_; rotate_left; (focus (have hf := HF.out W hW; clear hW; go_simp; exact loose_early)); simp only [Act.put, List.setIfInBounds_toArray, List.set_cons_zero, List.set_cons_succ, List.nil_append, List.cons_append, Nat.reduceAdd, Leaves.at])
  refine told_rel (LabF W1.heap.size t.d2 p.l2) (LabF.stable hD3) (fun _ => rfl) (fun vs W hW hd => ?_) ?_
  · clear hd; go_simp; exact loose_callR (RetOwn.labF (copy39 W _ _ _ _ _ (H1.out.but hW (Nat.le_of_lt hlt1) hD).c2 z2) hW.size)
  simp only [Act.put, List.setIfInBounds_toArray, List.set_cons_zero, List.set_cons_succ, List.nil_append, List.cons_append, Nat.reduceAdd, Leaves.at]
  repeat (refine told_val (v := ?_) (fun _ => rfl) (fun vs W hW => ?_) ?_; rotate_left; (focus (clear hW; go_simp; exact loose_val)); simp only [Act.put, List.setIfInBounds_toArray, List.set_cons_zero, List.set_cons_succ, List.nil_append, List.cons_append, Nat.reduceAdd, Leaves.at])
  refine told_write0 (C := (fun W => ∃ b : Sl, Blk W w.heap.size 61 (thC { t with l1 := a, l2 := b }) ∧ CatsF W1.heap.size p.l2 W b)) (hs := (fun _ _ _ hb ⟨b, hk, h⟩ => ⟨b, hb.blk hk (fun x => x), h.keep hb (fun _ x => x.elim)⟩)) (hno := by kernel_rfl) (h0 := rfl) (hw := fun _ => rfl) (hr := fun vs W hW hd => ?_) ?_
  · obtain ⟨s, e, hs⟩ := hd ⟨2, .data⟩ (by simp) rfl _ rfl (fun h => by cases h); clear hd; exact loose_store (v := .agg #[.int .i64 t.d2, .slice s.a s.n s.c]) (vs := [.int .i64 t.d2, .slice s.a s.n s.c]) (cur := { t with l1 := a }.cells) rfl rfl e (hW.blk HK1.out (fun h => h)) rfl size26 (Nat.le_of_ble_eq_true rfl) (one_label _ _ _ _) rfl (fun W' hb hk => ⟨s, hk, hs.keep hb hD3⟩)
  simp only [Act.put, List.setIfInBounds_toArray, List.set_cons_zero, List.set_cons_succ, List.nil_append, List.cons_append, Nat.reduceAdd, Leaves.at]
  refine told_nil ?_
  intro vs W2 hW2 hok hap hwr
  have hC := hwr 4 _ rfl (noWr_of rfl)
  clear hap hwr
  dsimp only
  obtain ⟨b, hk2, hb2⟩ := hC
  have HK2 := hid hk2
  have HBb := hid (hb2.less hsz1)
  have HAa := hid (HA.out.keep hW2 hD2)
  have HX2 := hid (hW2.blk HX.out (fun h => by have : w.heap.size + 1 = w.heap.size := h; omega))
  have HB2 := hid (hW2.done HB1.out hD (Nat.le_of_lt hlt1))
  have hbl := hW2.done (Below.refl w.heap.size W1) hD (Nat.le_of_lt hlt1)
  have hsz2 : wa.heap.size ≤ W2.heap.size := Nat.le_trans hsz1 hW2.size
  have HR1 := hid ((H1.out.lk.below hbl).reads)
  have HR2 := hid ((H1.out.dt.below hbl).reads)
  clear hok hW2 hk2 hb2 HK1 HF HB1 HA HX H1 hbl
  obtain ⟨_, _, f8, f9⟩ := HK2.out.cells26
  have hlt3 : w.heap.size < W2.heap.size := by omega
  have hl8 : (W2.alloc (.cells #[] 101)).cell? ⟨w.heap.size, 8, none⟩ = some (.slice t.links.a t.links.n t.links.c) := (World.cell?_alloc_lt W2 _ _ hlt3).trans f8
  clear f8
  go_wp2_with (first
    | (at_builtin
       refine wpList_append_any _ rfl (.tmp 11) (.tmp 13) _ rfl W2.heap.size 101 i0 _ 2 16 Try.underlying56 hi0 hz0 hz1 hz2 rfl (by omega) (.slice (some ⟨W2.heap.size, 0, none⟩) 0 0) 0 [] rfl (World.ownsRow_made W2 #[] 0 (Nat.le_refl _) (by simp [maxLen]) rfl) w.heap.size t.links.a t.links.n t.links.c (flat p.links) rfl (HR1.out.alloc (Nat.le_of_lt hlt3) _) (flat_one _) (by simp only [maxLen]; omega) (by omega) (by simp) ?_
       intro v1 w1 hown1 hg1 hat1
       obtain ⟨A1, n1, c1, rfl, hT1, hFr1⟩ := cats_of_own (w := w1) (base := W2.heap.size) (e := 101) (v := v1) (by rw [HL1.out]; simpa using hown1)
       have HCc := hid (show CatsF W2.heap.size p.links w1 ⟨A1, n1, c1⟩ from ⟨hT1, hFr1⟩)
       have hb1 : Below W2.heap.size W2 w1 := ((Below.refl _ W2).alloc (Nat.le_refl _) _).grown hg1 (by simp) (by simp [Value.ownBlock])
       have HB3 := hid hb1
       have HK3 := hid (HK2.out.below hb1 hlt3)
       clear hown1 hg1 hat1 hT1 hFr1 hl8 hb1)
    | (refine wpList_part (g := w.heap.size) (off := 8) (t := 61) (cur := { t with l1 := a, l2 := b }.cells) [.slice A1 n1 c1] rfl rfl HK3.out rfl size56 (Nat.le_of_ble_eq_true rfl) (one_slice _ _ _) ?_
       intro W4 hb4 hk4
       have HAa4 := hid ((HAa.out.keep ((But.refl nil_ _).below HB3.out) (fun _ x => x.elim)).keep hb4 (fun k e => by omega))
       have HBb4 := hid ((HBb.out.keep ((But.refl nil_ _).below HB3.out) (fun _ x => x.elim)).keep hb4 (fun k e => by omega))
       have HCc4 := hid ((HCc.out.less (B' := wa.heap.size) hsz2).keep hb4 (fun k e => by omega))
       have HX4 := hid (hb4.blk (HX2.out.below HB3.out (by omega)) (fun e => by omega))
       have HK4 : Hid (Blk W4 w.heap.size 61 (thC { t with l1 := a, l2 := b, links := ⟨A1, n1, c1⟩ })) := hk4
       have hlt4 : w.heap.size < W4.heap.size := Blk.lt hk4
       have hle4 : W2.heap.size ≤ W4.heap.size := Nat.le_trans HB3.out.size hb4.size
       have HB4 := hid (hb4.done (HB2.out.trans (HB3.out.mono (by omega))) (fun k e => by omega) (by have := HB3.out.size; omega))
       have HR4 := hid (HR2.out.below (hb4.done (HB3.out.mono (Nat.le_of_lt hlt3)) (fun k e => by omega) (by have := HB3.out.size; omega)))
       have hl9 : (W4.alloc (.cells #[] 5)).cell? ⟨w.heap.size, 9, none⟩ = some (.slice t.data.a t.data.n t.data.c) := (World.cell?_alloc_lt W4 _ _ hlt4).trans ((Blk.cell hk4 9).trans rfl)
       clear hb4 hk4)
    | (at_builtin
       refine wpList_append_any _ rfl (.tmp 16) (.tmp 18) _ rfl W4.heap.size 5 j0 _ 1 1 Try.underlying57 hj0 hy0 hy1 hy2 rfl (by omega) (.slice (some ⟨W4.heap.size, 0, none⟩) 0 0) 0 [] rfl (World.ownsRow_made W4 #[] 0 (Nat.le_refl _) (by simp [maxLen]) rfl) w.heap.size t.data.a t.data.n t.data.c (byteCells p.data) rfl (HR4.out.alloc (Nat.le_of_lt hlt4) _) (byteCells_one _) (by simp only [maxLen]; omega) (by omega) (by simp) ?_
       intro v5 w5 hown5 hg5 hat5
       obtain ⟨A5, n5, c5, rfl, hT5, hFr5⟩ := bytes_of_own HF2.out (w := w5) (base := W4.heap.size) (e := 5) (v := v5) (by rw [HL2.out]; simpa using hown5)
       have HCd := hid (show BytesF W4.heap.size p.data w5 ⟨A5, n5, c5⟩ from ⟨hT5, hFr5⟩)
       have hb5 : Below W4.heap.size W4 w5 := ((Below.refl _ W4).alloc (Nat.le_refl _) _).grown hg5 (by simp) (by simp [Value.ownBlock])
       have HB5 := hid hb5
       have HK5 := hid (HK4.out.below hb5 hlt4)
       clear hown5 hg5 hat5 hT5 hFr5 hl9 hb5)
    | (refine wpList_part (g := w.heap.size) (off := 9) (t := 61) (cur := { t with l1 := a, l2 := b, links := ⟨A1, n1, c1⟩ }.cells) [.slice A5 n5 c5] rfl rfl HK5.out rfl size57 (Nat.le_of_ble_eq_true rfl) (one_slice _ _ _) ?_
       intro W6 hb6 hk6
       have hle5 : W4.heap.size ≤ w5.heap.size := HB5.out.size
       have HAa6 := hid ((HAa4.out.keep ((But.refl nil_ _).below HB5.out) (fun _ x => x.elim)).keep hb6 (fun k e => by omega))
       have HBb6 := hid ((HBb4.out.keep ((But.refl nil_ _).below HB5.out) (fun _ x => x.elim)).keep hb6 (fun k e => by omega))
       have HCc6 := hid ((HCc4.out.keep ((But.refl nil_ _).below HB5.out) (fun _ x => x.elim)).keep hb6 (fun k e => by omega))
       have HCd6 := hid ((HCd.out.less (B' := wa.heap.size) (by omega)).keep hb6 (fun k e => by omega))
       have HX6 := hid (hb6.blk (HX4.out.below HB5.out (by omega)) (fun e => by omega))
       have HK6 : Hid (Blk W6 w.heap.size 61 (thC { t with l1 := a, l2 := b, links := ⟨A1, n1, c1⟩, data := ⟨A5, n5, c5⟩ })) := hk6
       have HB6 := hid (hb6.done (HB4.out.trans (HB5.out.mono (by omega))) (fun k e => by omega) (by omega))
       have hle6 : w5.heap.size ≤ W6.heap.size := hb6.size
       clear hb6 hk6)
    | (refine wpList_load61 { t with l1 := a, l2 := b, links := ⟨A1, n1, c1⟩, data := ⟨A5, n5, c5⟩ } w.heap.size rfl HK6.out ?_)
    | (refine wpList_store61 { t with l1 := a, l2 := b, links := ⟨A1, n1, c1⟩, data := ⟨A5, n5, c5⟩ } zeroTh (w.heap.size + 1) rfl rfl HX6.out ?_; intro W7 hb7 hk7))
  refine bodyPost_ret (th_run hk7 rfl _ rfl) rfl ⟨a, b, ⟨A1, n1, c1⟩, ⟨A5, n5, c5⟩, rfl, (HAa6.out.keep hb7 (fun k e => by omega)).less (by omega), (HBb6.out.keep hb7 (fun k e => by omega)).less (by omega), (HCc6.out.keep hb7 (fun k e => by omega)).less (by omega), (HCd6.out.keep hb7 (fun k e => by omega)).less (by omega), ?_⟩
  exact hb7.done HB6.out (fun k e => by omega) (Nat.le_of_lt (Nat.lt_of_succ_lt HX6.out.lt))
end Go.Proofs.Ytndohmimcbmhdaa

/- Arrays and structs held against one another. -/
set_option linter.unusedVariables false
set_option linter.unusedSimpArgs false
namespace Go.Proofs.Ytndohmimcbmhdaa
open Go.RowKit Go.Sort

theorem size24' : (Try.prog.info? 24).map (·.size) = some 1 := by kernel_rfl
theorem size52 : (Try.prog.info? 52).map (·.size) = some 2 := by kernel_rfl
theorem size3 : (Try.prog.info? 3).map (·.size) = some 1 := by kernel_rfl
theorem size4 : (Try.prog.info? 4).map (·.size) = some 1 := by kernel_rfl
theorem size58 : (Try.prog.info? 58).map (·.size) = some 4 := by kernel_rfl
theorem size59 : (Try.prog.info? 59).map (·.size) = some 8 := by kernel_rfl
theorem stood52 : Try.prog.stoodInHeld 52 = false := by kernel_rfl
theorem stood147 : Try.prog.stoodInHeld 147 = false := by kernel_rfl
theorem run_sizeOf {T k : Nat} (h : (Try.prog.info? T).map (·.size) = some k) (w : World) : (sizeOf T).run Try.prog w = .ok k w := by
  cases hq : Try.prog.info? T with
  | none => rw [hq] at h; cases h
  | some i => rw [hq] at h; simp at h; simp [sizeOf, typeInfo, hq, h]

theorem eq58 (d : Nat) (w : World) (a0 a1 a2 a3 b0 b1 b2 b3 : Int) : (Op.equalIn (d + 2) 58 (.agg #[.int .u64 a0, .int .u64 a1, .int .u64 a2, .int .u64 a3]) (.agg #[.int .u64 b0, .int .u64 b1, .int .u64 b2, .int .u64 b3])).run Try.prog w
    = .ok (a0 == b0 && (a1 == b1 && (a2 == b2 && a3 == b3))) w := by
  rw [Op.equalIn]
  simp only [Sem.run_bind, run_underlying Try.underlying58, Result.andThen_ok, run_sizeOf size24']
  simp [Std.Legacy.Range.forIn_eq_forIn_range', Std.Legacy.Range.size, List.range', part, isAgg, Sem.run_bind, run_underlying Try.underlying24, run_sizeOf size24']
  simp only [run_equalIn_int _ d 24 .u64 .u64 _ _ Try.underlying24, Result.andThen_ok]
  cases a0 == b0 <;> cases a1 == b1 <;> cases a2 == b2 <;> cases a3 == b3 <;> rfl
theorem fieldsOf_eq {T : TypeId} {fs : Array Field} (h : Try.prog.underlying T = some (.struct fs)) : Try.prog.underlying T = some (.struct (Try.prog.fieldsOf T)) := by
  unfold Program.fieldsOf
  rw [h]
theorem eq52 (d : Nat) (w : World) (a0 a1 b0 b1 : Int) : (Op.equalIn (d + 2) 52 (.agg #[.int .u64 a0, .int .u64 a1]) (.agg #[.int .u64 b0, .int .u64 b1])).run Try.prog w = .ok (a0 == b0 && a1 == b1) w := by
  rw [run_equalIn_struct w (d + 1) 52 _ _ (fieldsOf_eq Try.underlying52) stood52]
  simp only [Program.fieldsOf, Try.underlying52]
  simp [Op.eqFields, part, isAgg, Sem.run_bind, run_underlying Try.underlying24]
  simp only [run_equalIn_int _ d 24 .u64 .u64 _ _ Try.underlying24, Result.andThen_ok]
  cases a0 == b0 <;> cases a1 == b1 <;> rfl
theorem eq59 (d : Nat) (w : World) (a0 a1 a2 a3 a4 a5 a6 a7 b0 b1 b2 b3 b4 b5 b6 b7 : Int) :
    (Op.equalIn (d + 3) 59 (.agg #[.int .u64 a0, .int .u64 a1, .int .u64 a2, .int .u64 a3, .int .u64 a4, .int .u64 a5, .int .u64 a6, .int .u64 a7]) (.agg #[.int .u64 b0, .int .u64 b1, .int .u64 b2, .int .u64 b3, .int .u64 b4, .int .u64 b5, .int .u64 b6, .int .u64 b7])).run Try.prog w
    = .ok ((a0 == b0 && a1 == b1) && ((a2 == b2 && a3 == b3) && ((a4 == b4 && a5 == b5) && (a6 == b6 && a7 == b7)))) w := by
  rw [Op.equalIn]
  simp only [Sem.run_bind, run_underlying Try.underlying59, Result.andThen_ok, run_sizeOf size52]
  simp [Std.Legacy.Range.forIn_eq_forIn_range', Std.Legacy.Range.size, List.range', part, isAgg, Sem.run_bind, run_underlying Try.underlying52, run_sizeOf size52]
  simp only [eq52, Result.andThen_ok]
  cases (a0 == b0 && a1 == b1) <;> cases (a2 == b2 && a3 == b3) <;> cases (a4 == b4 && a5 == b5) <;> cases (a6 == b6 && a7 == b7) <;> rfl

/-- What of a thing is held against another one's at once. -/
def plL (t : Th) : List Value := [.int .u64 t.id, .int .i64 t.kind, .int .i64 t.quota, .int .i64 t.next, .int .i64 t.minted, .int .i64 t.boot, .int .u64 t.r0, .int .u64 t.r1, .int .u64 t.r2, .int .u64 t.r3, .bool t.halt, .int .u64 t.value, .int .u64 t.s0, .int .u64 t.s1, .int .u64 t.s2, .int .u64 t.s3, .int .u64 t.s4, .int .u64 t.s5, .int .u64 t.s6, .int .u64 t.s7]
def plC (t : Th) : Array Value := (plL t).toArray
theorem eq147 (d : Nat) (w : World) (t u : Th) : (Op.equalIn (d + 4) 147 (.agg (plC t)) (.agg (plC u))).run Try.prog w = .ok (numsB t u) w := by
  rw [run_equalIn_struct w (d + 3) 147 _ _ (fieldsOf_eq Try.underlying147) stood147]
  simp only [Program.fieldsOf, Try.underlying147]
  simp [Op.eqFields, part, isAgg, Sem.run_bind, run_underlying Try.underlying24, run_underlying Try.underlying3, run_underlying Try.underlying4, run_underlying Try.underlying58, run_underlying Try.underlying59, run_sizeOf size58, run_sizeOf size59, plC, plL]
  simp only [run_equalIn_int _ _ 24 .u64 .u64 _ _ Try.underlying24, run_equalIn_int _ _ 3 .i64 .i64 _ _ Try.underlying3, run_equalIn_bool' _ _ 4 _ _ Try.underlying4, eq58, eq59, Result.andThen_ok]
  unfold numsB
  cases t.id == u.id <;> try rfl
  cases t.kind == u.kind <;> try rfl
  cases t.quota == u.quota <;> try rfl
  cases t.next == u.next <;> try rfl
  cases t.minted == u.minted <;> try rfl
  cases t.boot == u.boot <;> try rfl
  generalize (t.r0 == u.r0 && (t.r1 == u.r1 && (t.r2 == u.r2 && t.r3 == u.r3))) = q
  cases q <;> try rfl
  cases t.halt == u.halt <;> try rfl
  cases t.value == u.value <;> try rfl
  generalize ((t.s0 == u.s0 && t.s1 == u.s1) && ((t.s2 == u.s2 && t.s3 == u.s3) && ((t.s4 == u.s4 && t.s5 == u.s5) && (t.s6 == u.s6 && t.s7 == u.s7)))) = q
  cases q <;> rfl
theorem guard147 : Try.prog.eqGuardType Try.prog.depth 147 = false := by kernel_rfl
theorem guard52 : Try.prog.eqGuardType Try.prog.depth 52 = false := by kernel_rfl
theorem guard58 : Try.prog.eqGuardType Try.prog.depth 58 = false := by kernel_rfl
theorem guard59 : Try.prog.eqGuardType Try.prog.depth 59 = false := by kernel_rfl
theorem loose_eq147 {o : Oper} {a : Act} {W : World} {x y : Operand} {ty : TypeId} {t u : Th} (ho : o.op = .binOp .eql 147 x y ty) (hx : a.eval x = .agg (plC t)) (hy : a.eval y = .agg (plC u)) : looseUpon Try.prog nil_ (.val (.bool (numsB t u))) W ((execOp a.eval o).run Try.prog W) := by
  unfold execOp
  simp only [ho, hx, hy, Sem.run_bind, run_eqGuard_agg W .eql 147 x y _ _ guard147, Result.andThen_ok, run_eql_struct, eq147 9996, Sem.run_pure]
  exact loose_val
def regsV (t : Th) : Value := .agg #[.int .u64 t.r0, .int .u64 t.r1, .int .u64 t.r2, .int .u64 t.r3]
def slotsV (t : Th) : Value := .agg #[.int .u64 t.s0, .int .u64 t.s1, .int .u64 t.s2, .int .u64 t.s3, .int .u64 t.s4, .int .u64 t.s5, .int .u64 t.s6, .int .u64 t.s7]
def regsB (t u : Th) : Bool := t.r0 == u.r0 && (t.r1 == u.r1 && (t.r2 == u.r2 && t.r3 == u.r3))
def slotsB (t u : Th) : Bool := (t.s0 == u.s0 && t.s1 == u.s1) && ((t.s2 == u.s2 && t.s3 == u.s3) && ((t.s4 == u.s4 && t.s5 == u.s5) && (t.s6 == u.s6 && t.s7 == u.s7)))
theorem loose_neq58 {o : Oper} {a : Act} {W : World} {x y : Operand} {ty : TypeId} {t u : Th} (ho : o.op = .binOp .neq 58 x y ty) (hx : a.eval x = regsV t) (hy : a.eval y = regsV u) : looseUpon Try.prog nil_ (.val (.bool (!(regsB t u)))) W ((execOp a.eval o).run Try.prog W) := by
  unfold execOp
  simp only [ho, hx, hy, regsV, Sem.run_bind, run_eqGuard_agg W .neq 58 x y _ _ guard58, Result.andThen_ok, run_neq_struct, eq58 9998, Sem.run_pure]
  exact loose_val
theorem loose_neq59 {o : Oper} {a : Act} {W : World} {x y : Operand} {ty : TypeId} {t u : Th} (ho : o.op = .binOp .neq 59 x y ty) (hx : a.eval x = slotsV t) (hy : a.eval y = slotsV u) : looseUpon Try.prog nil_ (.val (.bool (!(slotsB t u)))) W ((execOp a.eval o).run Try.prog W) := by
  unfold execOp
  simp only [ho, hx, hy, slotsV, Sem.run_bind, run_eqGuard_agg W .neq 59 x y _ _ guard59, Result.andThen_ok, run_neq_struct, eq59 9997, Sem.run_pure]
  exact loose_val
end Go.Proofs.Ytndohmimcbmhdaa

/- thing.Same. -/
set_option linter.unusedVariables false
set_option linter.unusedSimpArgs false
namespace Go.Proofs.Ytndohmimcbmhdaa
open Go.RowKit Go.Sort

theorem exact_and (d : Int) (l : List (Int × Int)) (d' : Int) (l' : List (Int × Int)) : exactB d l d' l' = (d == d' && eqB l l') := by
  unfold exactB eqB
  rw [Bool.eq_iff_iff]
  simp

set_option maxHeartbeats 2000000 in
set_option maxRecDepth 100000 in
theorem label143 (w : World) (d d' : Int) (A A' : Option Addr) (n c n' c' : Nat) (l l' : List (Int × Int)) (h : CatsAt w w.heap.size A n c l) (h' : CatsAt w w.heap.size A' n' c' l') :
    Calls Try.prog 143 #[.agg #[.int .i64 d, .slice A n c], .agg #[.int .i64 d', .slice A' n' c']] w fun e w' => e = .returned (.bool (exactB d l d' l')) ∧ Below w.heap.size w w' := by
  obtain ⟨q1, q2, q3⟩ := two_blk w #[.int .i64 d, .slice A n c] #[.int .i64 d', .slice A' n' c'] 26 26
  have HB := hid q1
  have HP1 := hid q2
  have HP2 := hid q3
  have H := hid ((h.below q1).more q1.size)
  have H' := hid ((h'.below q1).more q1.size)
  obtain ⟨q, hq⟩ : ∃ q, q = (d == d') := ⟨_, rfl⟩
  obtain ⟨p, hp⟩ : ∃ p, p = eqB l l' := ⟨_, rfl⟩
  have HE : Hid (exactB d l d' l' = (q && p)) := by show _ = _; rw [hq, hp]; exact exact_and d l d' l'
  have HQ := hid hq
  have HP := hid hp
  clear h h' q1 q2 q3 hq hp
  go_enter Try.func143, Try.ntmps143
  go_wp2_with (refine wp_list_told 13 13 nil_ rfl (by decide) ?_)
  generalize (w.alloc (.cells #[.int .i64 d, .slice A n c] 26)).alloc (.cells #[.int .i64 d', .slice A' n' c'] 26) = wa at *
  have HF : Hid (∀ W, But nil_ wa W → (W.cell? ⟨w.heap.size, 0, none⟩ = some (.int .i64 d) ∧ W.cell? ⟨w.heap.size, 1, none⟩ = some (.slice A n c)) ∧ (W.cell? ⟨w.heap.size + 1, 0, none⟩ = some (.int .i64 d') ∧ W.cell? ⟨w.heap.size + 1, 1, none⟩ = some (.slice A' n' c'))) :=
    fun W hW => ⟨(hW.blk HP1.out (fun h => h)).cells2, (hW.blk HP2.out (fun h => h)).cells2⟩
  have HX := hid (fun W (hW : But nil_ wa W) => equal108 W A A' n c n' c' l l' (H.out.since_ hW) (H'.out.since_ hW))
  rw [← HP.out] at HX
  clear HP
  try simp only [List.take_succ_cons, List.take_zero, List.drop_succ_cons, List.drop_zero]
  refine told_val (v := _) (fun _ => rfl) (fun vs W hW => (by have hf := HF.out W hW; clear hW; go_simp; exact loose_val)) ?_
  simp only [Act.put, List.setIfInBounds_toArray, List.set_cons_zero, List.set_cons_succ, List.nil_append, List.cons_append, Nat.reduceAdd, Leaves.at]
  refine told_val (v := _) (fun _ => rfl) (fun vs W hW => (by have hf := HF.out W hW; clear hW; go_simp; exact loose_val)) ?_
  simp only [Act.put, List.setIfInBounds_toArray, List.set_cons_zero, List.set_cons_succ, List.nil_append, List.cons_append, Nat.reduceAdd, Leaves.at]
  refine told_val (v := _) (fun _ => rfl) (fun vs W hW => (by have hf := HF.out W hW; clear hW; go_simp; exact loose_val)) ?_
  simp only [Act.put, List.setIfInBounds_toArray, List.set_cons_zero, List.set_cons_succ, List.nil_append, List.cons_append, Nat.reduceAdd, Leaves.at]
  refine told_val (v := _) (fun _ => rfl) (fun vs W hW => (by have hf := HF.out W hW; clear hW; go_simp; exact loose_val)) ?_
  simp only [Act.put, List.setIfInBounds_toArray, List.set_cons_zero, List.set_cons_succ, List.nil_append, List.cons_append, Nat.reduceAdd, Leaves.at]
  refine told_val' (v := .bool q) (fun _ => rfl) (fun vs W hW hd => ?_) ?_
  · clear hd; rw [HQ.out]; go_simp; exact loose_val
  simp only [Act.put, List.setIfInBounds_toArray, List.set_cons_zero, List.set_cons_succ, List.nil_append, List.cons_append, Nat.reduceAdd, Leaves.at]
  repeat (refine told_val (v := ?_) (fun _ => rfl) (fun vs W hW => ?_) ?_; rotate_left; (focus (have hf := HF.out W hW; clear hW; go_simp; exact loose_val)); simp only [Act.put, List.setIfInBounds_toArray, List.set_cons_zero, List.set_cons_succ, List.nil_append, List.cons_append, Nat.reduceAdd, Leaves.at])
  repeat (refine told_maybe (b := q) (v := ?_) (fun _ => Bool.casesOn q rfl rfl) (fun hb vs W hW => ?_) ?_; rotate_left; (focus (have hf := HF.out W hW; clear hW; (try simp only [hb, cond_true, cond_false]); go_simp; exact loose_val)); simp only [Act.put, List.setIfInBounds_toArray, List.set_cons_zero, List.set_cons_succ, List.nil_append, List.cons_append, Nat.reduceAdd, Leaves.at])
  refine told_maybe (b := q) (v := .bool p) (fun _ => Bool.casesOn q rfl rfl) (fun hb vs W hW => ?_) ?_
  · try simp only [hb, cond_true, cond_false]
    go_simp
    exact loose_call (HX.out W hW)
  simp only [Act.put, List.setIfInBounds_toArray, List.set_cons_zero, List.set_cons_succ, List.nil_append, List.cons_append, Nat.reduceAdd, Leaves.at]
  refine told_val (v := .bool (q && p)) (fun _ => rfl) (fun vs W hW => ?_) ?_
  · cases q <;> cases p <;> (go_simp; exact loose_val)
  simp only [Act.put, List.setIfInBounds_toArray, List.set_cons_zero, List.set_cons_succ, List.nil_append, List.cons_append, Nat.reduceAdd, Leaves.at]
  repeat (refine told_val (v := ?_) (fun _ => rfl) (fun vs W hW => ?_) ?_; rotate_left; (focus (have hf := HF.out W hW; clear hW; go_simp; exact loose_val)); simp only [Act.put, List.setIfInBounds_toArray, List.set_cons_zero, List.set_cons_succ, List.nil_append, List.cons_append, Nat.reduceAdd, Leaves.at])
  refine told_nil ?_
  intro vs W hW hok hap
  clear hap
  dsimp only
  have HB2 := hid (HB.out.trans (since_below hW HB.out.size))
  clear hok hW
  go_wp2_with fail
  go_ret
  exact ⟨by rw [HE.out]; rfl, HB2.out⟩

theorem Blk.front {w : World} {g : Nat} {t : Th} (h : Blk w g 61 (thC t)) : (w.cell? ⟨g, 0, none⟩ = some (.int .u64 t.id) ∧ w.cell? ⟨g, 1, none⟩ = some (.int .i64 t.kind) ∧ w.cell? ⟨g, 2, none⟩ = some (.int .i64 t.d1) ∧ w.cell? ⟨g, 3, none⟩ = some (.slice t.l1.a t.l1.n t.l1.c) ∧ w.cell? ⟨g, 4, none⟩ = some (.int .i64 t.d2) ∧ w.cell? ⟨g, 5, none⟩ = some (.slice t.l2.a t.l2.n t.l2.c) ∧ w.cell? ⟨g, 6, none⟩ = some (.int .i64 t.quota) ∧ w.cell? ⟨g, 7, none⟩ = some (.int .i64 t.next) ∧ w.cell? ⟨g, 8, none⟩ = some (.slice t.links.a t.links.n t.links.c) ∧ w.cell? ⟨g, 9, none⟩ = some (.slice t.data.a t.data.n t.data.c)) := ⟨(Blk.cell h 0).trans rfl, (Blk.cell h 1).trans rfl, (Blk.cell h 2).trans rfl, (Blk.cell h 3).trans rfl, (Blk.cell h 4).trans rfl, (Blk.cell h 5).trans rfl, (Blk.cell h 6).trans rfl, (Blk.cell h 7).trans rfl, (Blk.cell h 8).trans rfl, (Blk.cell h 9).trans rfl⟩
theorem Blk.mid {w : World} {g : Nat} {t : Th} (h : Blk w g 61 (thC t)) : (w.cell? ⟨g, 10, none⟩ = some (.int .u64 t.r0) ∧ w.cell? ⟨g, 11, none⟩ = some (.int .u64 t.r1) ∧ w.cell? ⟨g, 12, none⟩ = some (.int .u64 t.r2) ∧ w.cell? ⟨g, 13, none⟩ = some (.int .u64 t.r3) ∧ w.cell? ⟨g, 14, none⟩ = some (.int .i64 t.minted) ∧ w.cell? ⟨g, 15, none⟩ = some (.int .i64 t.boot) ∧ w.cell? ⟨g, 16, none⟩ = some (.bool t.halt) ∧ w.cell? ⟨g, 17, none⟩ = some (.int .u64 t.value)) := ⟨(Blk.cell h 10).trans rfl, (Blk.cell h 11).trans rfl, (Blk.cell h 12).trans rfl, (Blk.cell h 13).trans rfl, (Blk.cell h 14).trans rfl, (Blk.cell h 15).trans rfl, (Blk.cell h 16).trans rfl, (Blk.cell h 17).trans rfl⟩
theorem Blk.back {w : World} {g : Nat} {t : Th} (h : Blk w g 61 (thC t)) : (w.cell? ⟨g, 18, none⟩ = some (.int .u64 t.s0) ∧ w.cell? ⟨g, 19, none⟩ = some (.int .u64 t.s1) ∧ w.cell? ⟨g, 20, none⟩ = some (.int .u64 t.s2) ∧ w.cell? ⟨g, 21, none⟩ = some (.int .u64 t.s3) ∧ w.cell? ⟨g, 22, none⟩ = some (.int .u64 t.s4) ∧ w.cell? ⟨g, 23, none⟩ = some (.int .u64 t.s5) ∧ w.cell? ⟨g, 24, none⟩ = some (.int .u64 t.s6) ∧ w.cell? ⟨g, 25, none⟩ = some (.int .u64 t.s7)) := ⟨(Blk.cell h 18).trans rfl, (Blk.cell h 19).trans rfl, (Blk.cell h 20).trans rfl, (Blk.cell h 21).trans rfl, (Blk.cell h 22).trans rfl, (Blk.cell h 23).trans rfl, (Blk.cell h 24).trans rfl, (Blk.cell h 25).trans rfl⟩
def plZ : Array Value := #[.int .u64 0, .int .i64 0, .int .i64 0, .int .i64 0, .int .i64 0, .int .i64 0, .int .u64 0, .int .u64 0, .int .u64 0, .int .u64 0, .bool false, .int .u64 0, .int .u64 0, .int .u64 0, .int .u64 0, .int .u64 0, .int .u64 0, .int .u64 0, .int .u64 0, .int .u64 0]
theorem size147 : (Try.prog.info? 147).map (·.size) = some 20 := by kernel_rfl
theorem pl_one (t : Th) : ∀ v ∈ plL t, v.oneCell' = true := by
  intro v hv
  simp only [plL, List.mem_cons, List.not_mem_nil, or_false] at hv
  rcases hv with rfl | rfl | rfl | rfl | rfl | rfl | rfl | rfl | rfl | rfl | rfl | rfl | rfl | rfl | rfl | rfl | rfl | rfl | rfl | rfl <;> rfl
theorem agg58 : ∀ u : World, (isAgg 58).run Try.prog u = .ok true u := agg_of_array Try.underlying58
theorem agg59 : ∀ u : World, (isAgg 59).run Try.prog u = .ok true u := agg_of_array Try.underlying59
theorem pl_run {w : World} {g : Nat} {t : Th} (h : Blk w g 147 (plC t)) {fn : Func} {p : Tmp} (hf : fn.results = #[.cell p 147]) (tmps : Array Value) (hp : tmps.getD p undef = .pointer (some ⟨g, 0, none⟩)) :
    (results fn tmps).run Try.prog w = .ok (.agg (plC t)) w :=
  results_cell_row hf tmps w g 147 (plC t) (0, 0) _ hp h Try.underlying147 rfl size147

set_option maxHeartbeats 4000000 in
set_option maxRecDepth 100000 in
theorem plain142 (w : World) (t : Th) : Calls Try.prog 142 #[.agg (thC t)] w fun e w' => e = .returned (.agg (plC t)) ∧ Below w.heap.size w w' := by
  obtain ⟨q0, q1, q2⟩ := two_blk w (thC t) plZ 61 147
  have HB := hid q0
  have HP1 := hid q1
  have HP2 := hid q2
  clear q0 q1 q2
  go_enter Try.func142, Try.ntmps142
  go_wp2_with (refine wp_list_toldw 22 22 (at_ (w.heap.size + 1)) rfl (by decide) ?_)
  have hpz : (w.alloc (.cells (thC t) 61)).alloc (.cells #[.int .u64 0, .int .i64 0, .int .i64 0, .int .i64 0, .int .i64 0, .int .i64 0, .int .u64 0, .int .u64 0, .int .u64 0, .int .u64 0, .bool false, .int .u64 0, .int .u64 0, .int .u64 0, .int .u64 0, .int .u64 0, .int .u64 0, .int .u64 0, .int .u64 0, .int .u64 0] 147) = (w.alloc (.cells (thC t) 61)).alloc (.cells plZ 147) := rfl
  rw [hpz]
  clear hpz
  generalize (w.alloc (.cells (thC t) 61)).alloc (.cells plZ 147) = wa at *
  have hne : ¬ at_ (w.heap.size + 1) w.heap.size := fun e => by have : w.heap.size = w.heap.size + 1 := e; omega
  have HF : Hid (∀ W, But (at_ (w.heap.size + 1)) wa W → _) := fun W hW => (fun h => And.intro (Blk.front h) (Blk.mid h)) (hW.blk HP1.out hne)
  try simp only [List.take_succ_cons, List.take_zero, List.drop_succ_cons, List.drop_zero]
  repeat (refine told_val (v := ?_) (fun _ => rfl) (fun vs W hW => ?_) ?_; rotate_left; (focus (have hf := HF.out W hW; clear hW; go_simp; exact loose_val)); simp only [Act.put, List.setIfInBounds_toArray, List.set_cons_zero, List.set_cons_succ, List.nil_append, List.cons_append, Nat.reduceAdd, Leaves.at])
  refine told_val (v := slotsV t) (hw := fun _ => rfl) (hr := fun vs W hW => loose_load (cur := t.cells) (vs := [.int .u64 t.s0, .int .u64 t.s1, .int .u64 t.s2, .int .u64 t.s3, .int .u64 t.s4, .int .u64 t.s5, .int .u64 t.s6, .int .u64 t.s7]) rfl rfl (hW.blk HP1.out hne) agg59 size59 rfl) ?_
  simp only [Act.put, List.setIfInBounds_toArray, List.set_cons_zero, List.set_cons_succ, List.nil_append, List.cons_append, Nat.reduceAdd, Leaves.at]
  refine told_val (v := .agg (plC t)) (fun _ => rfl) (fun vs W hW => ?_) ?_
  · unfold slotsV
    go_simp
    exact loose_val
  simp only [Act.put, List.setIfInBounds_toArray, List.set_cons_zero, List.set_cons_succ, List.nil_append, List.cons_append, Nat.reduceAdd, Leaves.at]
  refine told_write0 (C := (fun W => Blk W (w.heap.size + 1) 147 (plC t))) (hs := (fun _ _ _ hb hk => hb.blk hk (fun x => x))) (hno := by kernel_rfl) (h0 := rfl) (hw := fun _ => rfl) (hr := fun vs W hW hd => ?_) ?_
  · exact loose_store (v := .agg (plC t)) (vs := plL t) (cur := plZ.toList) rfl rfl rfl (hW.blk HP2.out (fun h => h)) rfl size147 (Nat.le_of_ble_eq_true rfl) (pl_one t) rfl (fun W' hb hk => hk)
  simp only [Act.put, List.setIfInBounds_toArray, List.set_cons_zero, List.set_cons_succ, List.nil_append, List.cons_append, Nat.reduceAdd, Leaves.at]
  refine told_nil ?_
  intro vs W hW hok hap hwr
  have hC := hwr 21 _ rfl (noWr_of rfl)
  clear hap hwr
  dsimp only
  have HK := hid hC
  have HB2 := hid (hW.done HB.out (fun k e => by have : k = w.heap.size + 1 := e; omega) (Nat.le_of_lt HP1.out.lt))
  clear hok hW hC
  go_wp2_with fail
  refine bodyPost_ret (pl_run HK.out rfl _ rfl) rfl ⟨rfl, HB2.out⟩
end Go.Proofs.Ytndohmimcbmhdaa
