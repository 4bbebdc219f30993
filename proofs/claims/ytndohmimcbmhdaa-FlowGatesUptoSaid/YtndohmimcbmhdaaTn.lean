/- label.turn, Raise, Lower. -/
import Derived.Test.YtndohmimcbmhdaaMg
set_option linter.unusedVariables false
set_option linter.unusedSimpArgs false
namespace Go.Proofs.Ytndohmimcbmhdaa
open Go.RowKit Go.Sort

def turnF (was now : Int) (x _y : Int) : Int := if x = was then now else x

set_option maxHeartbeats 400000 in
theorem choose152 (w : World) (x y was now : Int) (p p' : Addr) (h : w.cell? p = some (.int .i64 was)) (h' : w.cell? p' = some (.int .i64 now)) :
    Calls Try.prog 152 #[.int .i64 x, .int .i64 y, .pointer (some p), .pointer (some p')] w fun e w' => e = .returned (.int .i64 (turnF was now x y)) ∧ w = w' := by
  by_cases hx : x = was
  · have HT : Hid (turnF was now x y = now) := if_pos hx
    go_enter Try.func152, Try.ntmps152
    go_wp2_with fail
    go_ret
    exact ⟨by rw [HT.out]; rfl, rfl⟩
  · have HT : Hid (turnF was now x y = x) := if_neg hx
    go_enter Try.func152, Try.ntmps152
    go_wp2_with fail
    go_ret
    exact ⟨by rw [HT.out]; rfl, rfl⟩
theorem eg152 : ∀ args w, (callFunc 152 args).run Try.prog w = .ok (.enter 152 args) w := fun args w => by
  first | kernel_rfl | (simp [callFunc]; done)

set_option maxHeartbeats 1000000 in
set_option maxRecDepth 100000 in
theorem turn107 (w : World) (d was now : Int) (A : Option Addr) (n c : Nat) (cs : List (Int × Int)) (h : CatsAt w w.heap.size A n c cs) (hn : n + n ≤ 8796093022208) :
    Calls Try.prog 107 #[.agg #[.int .i64 d, .slice A n c], .int .i64 was, .int .i64 now] w fun e w' => Made (turnF was now d d) (mergeL (turnF was now) d cs d cs) w e w' := by
  obtain ⟨q1, q2, q3, q4, q5, q6⟩ := four_blk w #[.int .i64 d, .slice A n c] #[.int .i64 was] #[.int .i64 now] #[.int .i64 0, .slice none 0 0] 26 3 3 26
  have H := hid h
  have HB0 := hid q1
  have HP2 := hid q3
  have HP3 := hid q4
  have HP4 := hid q5
  clear h q1 q2 q3 q4 q5 q6
  go_enter Try.func107, Try.ntmps107
  go_wp2_with fail
  generalize (((w.alloc (.cells #[.int .i64 d, .slice A n c] 26)).alloc (.cells #[.int .i64 was] 3)).alloc (.cells #[.int .i64 now] 3)).alloc (.cells #[.int .i64 0, .slice none 0 0] 26) = wb at *
  have HCH : Hid (ChooseOk 152 #[.pointer (some ⟨w.heap.size + 1, 0, none⟩), .pointer (some ⟨w.heap.size + 1 + 1, 0, none⟩)] (turnF was now) wb) := by
    intro W hW x y
    refine (choose152 W x y was now ⟨w.heap.size + 1, 0, none⟩ ⟨w.heap.size + 1 + 1, 0, none⟩ ((Blk.cell (HP2.out.below hW HP2.out.lt) 0).trans rfl) ((Blk.cell (HP3.out.below hW HP3.out.lt) 0).trans rfl)).mono ?_
    rintro e w2 ⟨he, rfl⟩
    exact ⟨he, Below.refl _ _⟩
  refine (merge103 wb d d A A n c n c cs cs 152 _ (turnF was now) ((H.out.below HB0.out).more HB0.out.size) ((H.out.below HB0.out).more HB0.out.size) hn HCH.out eg152).mono ?_
  rintro e w3 ⟨v, F, rfl, hv, hF, hb3⟩
  obtain ⟨A3, n3, c3, rfl, _⟩ := hv.at_
  have k3 := HP4.out.below hb3 HP4.out.lt
  have z0 : w3.cell? ⟨w.heap.size + 1 + 1 + 1, 0, none⟩ = some (.int .i64 0) := (Blk.cell k3 0).trans rfl
  have z1 : w3.cell? ⟨w.heap.size + 1 + 1 + 1, 1, none⟩ = some (.slice none 0 0) := (Blk.cell k3 1).trans rfl
  have z2 := Blk.frozen k3 0
  have z3 := Blk.frozen k3 1
  have HK := hid k3
  have HV := hid hv
  have HF := hid hF
  have hs2 := HP4.out.lt
  have HB3 := hid (HB0.out.trans (hb3.mono HB0.out.size))
  have hsw := HB0.out.size
  clear k3 hv hF hb3
  go_wp2_with fail
  refine bodyPost_ret (label_run (label_put HK.out _ _) rfl _ rfl) rfl ?_
  exact ⟨_, F, rfl, ((HV.out.far (p := ⟨w.heap.size + 1 + 1 + 1, 0, none⟩) hs2 _).far (p := ⟨w.heap.size + 1 + 1 + 1, 1, none⟩) hs2 _).mono hsw, HF.out, (HB3.out.setCell (p := ⟨w.heap.size + 1 + 1 + 1, 0, none⟩) (by show w.heap.size ≤ w.heap.size + 1 + 1 + 1; omega) _).setCell (p := ⟨w.heap.size + 1 + 1 + 1, 1, none⟩) (by show w.heap.size ≤ w.heap.size + 1 + 1 + 1; omega) _⟩

set_option maxHeartbeats 1000000 in
set_option maxRecDepth 100000 in
theorem raise46 (w : World) (d : Int) (A : Option Addr) (n c : Nat) (cs : List (Int × Int)) (h : CatsAt w w.heap.size A n c cs) (hn : n + n ≤ 8796093022208) :
    Calls Try.prog 46 #[.agg #[.int .i64 d, .slice A n c]] w fun e w' => Made (turnF 0 5 d d) (mergeL (turnF 0 5) d cs d cs) w e w' := by
  have H := hid h
  have HB0 := hid (((Below.refl _ w).alloc (Nat.le_refl _) (.cells #[.int .i64 d, .slice A n c] 26)).alloc (by simp) (.cells #[.int .i64 0, .slice none 0 0] 26))
  have HP4 : Hid (Blk ((w.alloc (.cells #[.int .i64 d, .slice A n c] 26)).alloc (.cells #[.int .i64 0, .slice none 0 0] 26)) (w.heap.size + 1) 26 #[.int .i64 0, .slice none 0 0]) := by
    have := Blk.new (w.alloc (.cells #[.int .i64 d, .slice A n c] 26)) 26 #[.int .i64 0, .slice none 0 0]
    have e : (w.alloc (.cells #[.int .i64 d, .slice A n c] 26)).heap.size = w.heap.size + 1 := by simp
    rwa [e] at this
  clear h
  go_enter Try.func46, Try.ntmps46
  go_wp2_with fail
  generalize (w.alloc (.cells #[.int .i64 d, .slice A n c] 26)).alloc (.cells #[.int .i64 0, .slice none 0 0] 26) = wb at *
  refine (turn107 wb d 0 5 A n c cs ((H.out.below HB0.out).more HB0.out.size) hn).mono ?_
  rintro e w3 ⟨v, F, rfl, hv, hF, hb3⟩
  obtain ⟨A3, n3, c3, rfl, _⟩ := hv.at_
  have k3 := HP4.out.below hb3 HP4.out.lt
  have z0 : w3.cell? ⟨w.heap.size + 1, 0, none⟩ = some (.int .i64 0) := (Blk.cell k3 0).trans rfl
  have z1 : w3.cell? ⟨w.heap.size + 1, 1, none⟩ = some (.slice none 0 0) := (Blk.cell k3 1).trans rfl
  have z2 := Blk.frozen k3 0
  have z3 := Blk.frozen k3 1
  have HK := hid k3
  have HV := hid hv
  have HF := hid hF
  have hs2 := HP4.out.lt
  have HB3 := hid (HB0.out.trans (hb3.mono HB0.out.size))
  have hsw := HB0.out.size
  clear k3 hv hF hb3
  go_wp2_with fail
  refine bodyPost_ret (label_run (label_put HK.out _ _) rfl _ rfl) rfl ?_
  exact ⟨_, F, rfl, ((HV.out.far (p := ⟨w.heap.size + 1, 0, none⟩) hs2 _).far (p := ⟨w.heap.size + 1, 1, none⟩) hs2 _).mono hsw, HF.out, (HB3.out.setCell (p := ⟨w.heap.size + 1, 0, none⟩) (by show w.heap.size ≤ w.heap.size + 1; omega) _).setCell (p := ⟨w.heap.size + 1, 1, none⟩) (by show w.heap.size ≤ w.heap.size + 1; omega) _⟩

set_option maxHeartbeats 1000000 in
set_option maxRecDepth 100000 in
theorem lower48 (w : World) (d : Int) (A : Option Addr) (n c : Nat) (cs : List (Int × Int)) (h : CatsAt w w.heap.size A n c cs) (hn : n + n ≤ 8796093022208) :
    Calls Try.prog 48 #[.agg #[.int .i64 d, .slice A n c]] w fun e w' => Made (turnF 5 0 d d) (mergeL (turnF 5 0) d cs d cs) w e w' := by
  have H := hid h
  have HB0 := hid (((Below.refl _ w).alloc (Nat.le_refl _) (.cells #[.int .i64 d, .slice A n c] 26)).alloc (by simp) (.cells #[.int .i64 0, .slice none 0 0] 26))
  have HP4 : Hid (Blk ((w.alloc (.cells #[.int .i64 d, .slice A n c] 26)).alloc (.cells #[.int .i64 0, .slice none 0 0] 26)) (w.heap.size + 1) 26 #[.int .i64 0, .slice none 0 0]) := by
    have := Blk.new (w.alloc (.cells #[.int .i64 d, .slice A n c] 26)) 26 #[.int .i64 0, .slice none 0 0]
    have e : (w.alloc (.cells #[.int .i64 d, .slice A n c] 26)).heap.size = w.heap.size + 1 := by simp
    rwa [e] at this
  clear h
  go_enter Try.func48, Try.ntmps48
  go_wp2_with fail
  generalize (w.alloc (.cells #[.int .i64 d, .slice A n c] 26)).alloc (.cells #[.int .i64 0, .slice none 0 0] 26) = wb at *
  refine (turn107 wb d 5 0 A n c cs ((H.out.below HB0.out).more HB0.out.size) hn).mono ?_
  rintro e w3 ⟨v, F, rfl, hv, hF, hb3⟩
  obtain ⟨A3, n3, c3, rfl, _⟩ := hv.at_
  have k3 := HP4.out.below hb3 HP4.out.lt
  have z0 : w3.cell? ⟨w.heap.size + 1, 0, none⟩ = some (.int .i64 0) := (Blk.cell k3 0).trans rfl
  have z1 : w3.cell? ⟨w.heap.size + 1, 1, none⟩ = some (.slice none 0 0) := (Blk.cell k3 1).trans rfl
  have z2 := Blk.frozen k3 0
  have z3 := Blk.frozen k3 1
  have HK := hid k3
  have HV := hid hv
  have HF := hid hF
  have hs2 := HP4.out.lt
  have HB3 := hid (HB0.out.trans (hb3.mono HB0.out.size))
  have hsw := HB0.out.size
  clear k3 hv hF hb3
  go_wp2_with fail
  refine bodyPost_ret (label_run (label_put HK.out _ _) rfl _ rfl) rfl ?_
  exact ⟨_, F, rfl, ((HV.out.far (p := ⟨w.heap.size + 1, 0, none⟩) hs2 _).far (p := ⟨w.heap.size + 1, 1, none⟩) hs2 _).mono hsw, HF.out, (HB3.out.setCell (p := ⟨w.heap.size + 1, 0, none⟩) (by show w.heap.size ≤ w.heap.size + 1; omega) _).setCell (p := ⟨w.heap.size + 1, 1, none⟩) (by show w.heap.size ≤ w.heap.size + 1; omega) _⟩
end Go.Proofs.Ytndohmimcbmhdaa
