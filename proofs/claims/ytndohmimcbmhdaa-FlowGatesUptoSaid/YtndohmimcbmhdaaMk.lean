/- label.Make. -/
import Derived.Test.YtndohmimcbmhdaaForm
import Derived.Deep.RegionHeld3
import Derived.StillTailTactics
set_option linter.unusedVariables false
set_option linter.unusedSimpArgs false
namespace Go.Proofs.Ytndohmimcbmhdaa
open Go.RowKit Go.Sort

theorem Stably.length {l r : List (Int × Int)} (h : Stably l r) : l.length = r.length := by
  have hp : l.Perm r := List.perm_iff_count.2 fun a => by
    have e1 : (named l a.1).count a = l.count a := List.count_filter (by simp)
    have e2 : (named r a.1).count a = r.count a := List.count_filter (by simp)
    rw [← e1, ← e2, h a.1]
  exact hp.length_eq

theorem belowT {a b c : World} (h : Below a.heap.size a b) (k : Below b.heap.size b c) : Below a.heap.size a c := h.trans (k.mono h.size)
theorem eg99 : ∀ args w, (callFunc 99 args).run Try.prog w = .ok (.enter 99 args) w := fun args w => by
  first | kernel_rfl | (simp [callFunc]; done)

/-- What Make hands back: a label in its form, in memory of its own. -/
def Made (d : Int) (cs : List (Int × Int)) (w : World) (e : Ending) (w' : World) : Prop :=
  ∃ v F, e = .returned (.agg #[.int .i64 d, v]) ∧ OwnCats w' w.heap.size v F ∧ IsForm d cs F ∧ Below w.heap.size w w'

theorem isForm_nil (d : Int) : IsForm d [] [] := ⟨List.Pairwise.nil, (by intro x hx; cases hx), fun _ => rfl, Nat.le_refl _⟩


/-- The label's two cells are stored. -/
theorem label_put {w : World} {g : Nat} {a b : Value} (h : Blk w g 26 #[a, b]) (u v : Value) : Blk ((w.setCell ⟨g, 0, none⟩ u).setCell ⟨g, 1, none⟩ v) g 26 #[u, v] := by
  have := Blk.set_ (Blk.set_ h 0 u) 1 v
  exact this
theorem label_info : (Try.prog.info? 26).map (·.size) = some 2 := by kernel_rfl
theorem label_run {w : World} {g : Nat} {u v : Value} (h : Blk w g 26 #[u, v]) {fn : Func} {p : Tmp} (hf : fn.results = #[.cell p 26]) (tmps : Array Value) (hp : tmps.getD p undef = .pointer (some ⟨g, 0, none⟩)) :
    (results fn tmps).run Try.prog w = .ok (.agg #[u, v]) w :=
  results_cell_row hf tmps w g 26 #[u, v] (0, 0) _ hp h Try.underlying26 rfl label_info
theorem only_blk {w w' : World} {g k : Nat} {t : TypeId} {cs : Array Value} (h : Blk w k t cs) (hb : w.grownBy w' (some g)) (hne : k ≠ g) : Blk w' k t cs := h.grown hb (by simp; exact hne)

set_option maxRecDepth 100000 in
set_option maxHeartbeats 2000000 in
theorem make34 (w : World) (d : Int) (A : Option Addr) (n c : Nat) (cs : List (Int × Int)) (h : CatsAt w w.heap.size A n c cs) (hn : n ≤ 8796093022208) :
    Calls Try.prog 34 #[.int .i64 d, .slice A n c] w fun e w' => Made d cs w e w' := by
  have mixed : Try.prog.follows .mixedOrders = true := by kernel_rfl
  have H := hid h
  have HLN := hid h.len
  clear h
  go_enter Try.func34, Try.ntmps34
  go_wp2_with fail
  have hbw : Below w.heap.size w ((w.alloc (.cells #[.int .i64 d] 3)).alloc (.cells #[.int .i64 0, .slice none 0 0] 26)) := ((Below.refl _ w).alloc (Nat.le_refl _) _).alloc (by simp) _
  refine (clone92 _ A n c cs ((H.out.below hbw).more (by simp <;> omega)) hn).mono ?_
  rintro e w1 ⟨v, rfl, hv, hb1⟩
  have hB0 : Blk w1 w.heap.size 3 #[.int .i64 d] := ((Blk.new w 3 #[.int .i64 d]).alloc _).below hb1 (by simp <;> omega)
  have hB1 : Blk w1 (w.heap.size + 1) 26 #[.int .i64 0, .slice none 0 0] := by
    have := Blk.new (w.alloc (.cells #[.int .i64 d] 3)) 26 #[.int .i64 0, .slice none 0 0]
    have e : (w.alloc (.cells #[.int .i64 d] 3)).heap.size = w.heap.size + 1 := by simp
    rw [e] at this
    exact this.below hb1 (by simp <;> omega)
  have hs1 : w.heap.size + 2 ≤ w1.heap.size := by have := hb1.size; simpa using this
  have HB1 := hid (hbw.trans (hb1.mono (by simp <;> omega)))
  have hs2 : w.heap.size + 2 ≤ ((w.alloc (.cells #[.int .i64 d] 3)).alloc (.cells #[.int .i64 0, .slice none 0 0] 26)).heap.size := by simp
  rcases hv with ⟨rfl, rfl⟩ | ⟨g, cap, tl, rfl, hg, hc, hm, hr, hlen⟩
  · clear hb1 hbw hs2
    have HT : Hid (∀ W, Below w1.heap.size w1 W → TestOk 99 #[.pointer (some ⟨w.heap.size, 0, none⟩)] (fun x => x.2 == d) W) := by
      intro W hW W' hW' x
      have hlt : w.heap.size < w1.heap.size := by omega
      have hlt2 : w.heap.size < W.heap.size := Nat.lt_of_lt_of_le hlt hW.size
      have hk := (hB0.below hW hlt).below hW' hlt2
      refine (isDef99 x _ d W' hk.lt ((Blk.cell hk 0).trans rfl)).mono ?_
      rintro e w2 ⟨he, q, os, rfl⟩
      exact ⟨he, hW'.trans ((grown_below q os).mono hW'.size)⟩
    go_wp2_with (first | (go_at_call 93; refine (nil93 _).mono ?_; rintro e w2 ⟨rfl, rfl⟩) | (go_at_call 96; refine (nil96 _).mono ?_; rintro e w2 ⟨rfl, rfl⟩))
    have HKB : Hid (∀ W, Below w1.heap.size w1 W → (W.cell? ⟨w.heap.size, 0, none⟩ = some (.int .i64 d) ∧ (W.cell? ⟨w.heap.size + 1, 0, none⟩ = some (.int .i64 0) ∧ W.cell? ⟨w.heap.size + 1, 1, none⟩ = some (.slice none 0 0)) ∧ (W.frozen? ⟨w.heap.size + 1, 0, none⟩ = false ∧ W.frozen? ⟨w.heap.size + 1, 1, none⟩ = false)) ∧ Hid (Blk W (w.heap.size + 1) 26 #[.int .i64 0, .slice none 0 0])) := by
      intro W hW
      have hA := hB0.below hW (by omega)
      have hB := hB1.below hW (by omega)
      exact ⟨⟨(Blk.cell hA 0).trans rfl, ⟨(Blk.cell hB 0).trans rfl, (Blk.cell hB 1).trans rfl⟩, Blk.frozen hB 0, Blk.frozen hB 1⟩, hB⟩
    have b0 : w1.cell? ⟨w.heap.size, 0, none⟩ = some (.int .i64 d) := (Blk.cell hB0 0).trans rfl
    clear hB1 hB0
    go_region_with
      (first | (go_at_call 98; refine (nil98 _ 99 #[.pointer (some ⟨w.heap.size, 0, none⟩)] (fun x => x.2 == d) (HT.out _ (by first | exact Below.refl _ _ | exact (Below.refl _ _).drew)) eg99).mono ?_; rintro e w2 ⟨rfl, hb2⟩; obtain ⟨⟨z0, z1, z2⟩, zB⟩ := HKB.out w2 ((Below.refl _ w1).drew.trans hb2)))
    all_goals
      go_wp2_with fail
      refine bodyPost_ret (label_run (label_put zB.out _ _) rfl _ rfl) rfl ?_
      have hbb : Below w.heap.size w1 w2 := ((Below.refl _ w1).drew.trans hb2).mono (by show w.heap.size ≤ w1.heap.size; omega)
      exact ⟨_, [], rfl, .inl ⟨rfl, rfl⟩, isForm_nil d, ((HB1.out.trans hbb).setCell (p := ⟨w.heap.size + 1, 0, none⟩) (by show w.heap.size ≤ w.heap.size + 1; omega) _).setCell (p := ⟨w.heap.size + 1, 1, none⟩) (by show w.heap.size ≤ w.heap.size + 1; omega) _⟩
  · have hg2 : w.heap.size + 2 ≤ g := Nat.le_trans hs2 hg
    have HS := hid (sortStable93 w1 g cs.length cap cs tl hr rfl hc (by have := HLN.out; omega))
    have HLEN := hid hlen
    have HC := hid hc
    have HMX := hid hm
    clear hb1 hbw hs2 hr hlen
    go_wp2_with fail
    refine HS.out.mono ?_
    rintro e w2 ⟨rfl, C, hr2, hg12, hsC, hstC⟩
    have hCl := hstC.length
    have HF := hid (form_of d cs C hsC hstC hCl)
    have HCL := hid hCl
    have hC2 := compact_facts C hsC
    have HCP := hid (compact96 w2 g C.length cap C tl hr2 rfl (by rw [hCl]; exact hc) hm)
    rw [hCl] at HCP
    clear hr2 hsC hstC HS
    go_wp2_with fail
    refine HCP.out.mono ?_
    rintro e w3 ⟨rfl, tl3, hr3, hl3, hg23⟩
    have HR3 := hid hr3
    have G13 := hid (only_trans hg12 hg23)
    have HKL := hid hC2.2.2
    have HL3 := hid hl3
    generalize hK : compactL C = K at *
    have B03 := only_blk hB0 G13.out (by omega)
    have B13 := only_blk hB1 G13.out (by omega)
    have S3 : w1.heap.size ≤ w3.heap.size := G13.out.size
    have HT : Hid (∀ W, w3.grownBy W (some g) → TestOver 99 #[.pointer (some ⟨w.heap.size, 0, none⟩)] (fun x => x.2 == d) W g) := by
      intro W hW W' hW' x
      have hk := only_blk (only_blk B03 hW (by omega)) hW' (by omega)
      refine (isDef99 x _ d W' hk.lt ((Blk.cell hk 0).trans rfl)).mono ?_
      rintro e w2 ⟨he, q, os, rfl⟩
      exact ⟨he, grown_below q os⟩
    have HKB : Hid (∀ W, w3.grownBy W (some g) → (W.cell? ⟨w.heap.size, 0, none⟩ = some (.int .i64 d) ∧ (W.cell? ⟨w.heap.size + 1, 0, none⟩ = some (.int .i64 0) ∧ W.cell? ⟨w.heap.size + 1, 1, none⟩ = some (.slice none 0 0)) ∧ (W.frozen? ⟨w.heap.size + 1, 0, none⟩ = false ∧ W.frozen? ⟨w.heap.size + 1, 1, none⟩ = false)) ∧ Hid (Blk W (w.heap.size + 1) 26 #[.int .i64 0, .slice none 0 0])) := by
      intro W hW
      have hA := only_blk B03 hW (by omega)
      have hB := only_blk B13 hW (by omega)
      exact ⟨⟨(Blk.cell hA 0).trans rfl, ⟨(Blk.cell hB 0).trans rfl, (Blk.cell hB 1).trans rfl⟩, Blk.frozen hB 0, Blk.frozen hB 1⟩, hB⟩
    have HD : Hid (∀ W, Row W g K tl3 → w3.grownBy W (some g) → Calls Try.prog 98 #[.slice (some ⟨g, 0, none⟩) K.length cap, .func (.func 99) #[] #[.pointer (some ⟨w.heap.size, 0, none⟩)]] W fun e w' => e = .returned (.slice (some ⟨g, 0, none⟩) (K.filter (fun x => !(x.2 == d))).length cap) ∧ Shrunk W g K (K.filter (fun x => !(x.2 == d))) tl3 w') := by
      intro W hR hW
      exact delete98 W g K.length cap K tl3 99 _ (fun x => x.2 == d) hR rfl (by have := HKL.out; have := HC.out; omega) HMX.out (HT.out W hW) eg99
    have b0 : w3.cell? ⟨w.heap.size, 0, none⟩ = some (.int .i64 d) := (Blk.cell B03 0).trans rfl
    have HFL := hid (HF.out.less)
    clear hr3 hl3 hg12 hg23 hC2 HCP B03 B13 HT hB0 hB1 hK hCl
    generalize hFF : K.filter (fun x => !(x.2 == d)) = F at *
    go_wp2_with fail
    go_region_with
      (first | (go_at_call 98; refine (HD.out _ (by first | exact HR3.out | exact HR3.out.drew) (by first | exact only_refl _ _ | exact only_drew (only_refl _ _))).mono ?_; rintro e w4 ⟨rfl, tl4, hr4, hl4, hg4⟩; obtain ⟨⟨z0, z1, z2⟩, zB⟩ := HKB.out w4 (only_trans (only_drew (only_refl _ _)) hg4)))
    all_goals
      go_wp2_with fail
      refine bodyPost_ret (label_run (label_put zB.out _ _) rfl _ rfl) rfl ?_
      have hbb : Below w.heap.size w3 w4 := (Below.refl _ w3).grown (only_trans (only_drew (only_refl _ _)) hg4) (by omega) (fun k hk => by cases hk; omega)
      have hb3 : Below w.heap.size w1 w3 := (Below.refl _ w1).grown G13.out (by omega) (fun k hk => by cases hk; omega)
      refine ⟨_, F, rfl, .inr ⟨g, cap, tl4, rfl, by omega, by have := HFL.out; have := HC.out; omega, HMX.out, (hr4.far (p := ⟨w.heap.size + 1, 0, none⟩) (by show g ≠ w.heap.size + 1; omega) _).far (p := ⟨w.heap.size + 1, 1, none⟩) (by show g ≠ w.heap.size + 1; omega) _, ?_⟩, HF.out, ((HB1.out.trans (hb3.trans hbb)).setCell (p := ⟨w.heap.size + 1, 0, none⟩) (by show w.heap.size ≤ w.heap.size + 1; omega) _).setCell (p := ⟨w.heap.size + 1, 1, none⟩) (by show w.heap.size ≤ w.heap.size + 1; omega) _⟩
      have q1 := HLEN.out
      have q2 := HL3.out
      have q3 := HCL.out
      simp only [List.length_append, flat_length] at q1 q2 hl4 ⊢
      omega
end Go.Proofs.Ytndohmimcbmhdaa
