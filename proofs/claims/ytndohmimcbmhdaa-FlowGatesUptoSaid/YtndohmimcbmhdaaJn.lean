/- label.Join, label.Meet. -/
import Derived.Test.YtndohmimcbmhdaaSm
import Derived.Test.YtndohmimcbmhdaaAl
set_option linter.unusedVariables false
set_option linter.unusedSimpArgs false
namespace Go.Proofs.Ytndohmimcbmhdaa
open Go.RowKit Go.Sort

set_option maxHeartbeats 400000 in
theorem choose104 (w : World) (x y : Int) : Calls Try.prog 104 #[.int .i64 x, .int .i64 y] w fun e w' => e = .returned (.int .i64 (max x y)) ∧ w = w' := by
  go_enter Try.func104, Try.ntmps104
  go_wp2_with fail
  go_ret
  exact ⟨rfl, rfl⟩
theorem eg104 : ∀ args w, (callFunc 104 args).run Try.prog w = .ok (.enter 104 args) w := fun args w => by
  first | kernel_rfl | (simp [callFunc]; done)
theorem ok104 (w : World) : ChooseOk 104 #[] (fun x y => max x y) w := fun W _ x y => (choose104 W x y).mono fun e w2 ⟨he, hw⟩ => ⟨he, by subst hw; exact Below.refl _ _⟩

set_option maxHeartbeats 400000 in
theorem choose105 (w : World) (x y : Int) : Calls Try.prog 105 #[.int .i64 x, .int .i64 y] w fun e w' => e = .returned (.int .i64 (min x y)) ∧ w = w' := by
  go_enter Try.func105, Try.ntmps105
  go_wp2_with fail
  go_ret
  exact ⟨rfl, rfl⟩
theorem eg105 : ∀ args w, (callFunc 105 args).run Try.prog w = .ok (.enter 105 args) w := fun args w => by
  first | kernel_rfl | (simp [callFunc]; done)
theorem ok105 (w : World) : ChooseOk 105 #[] (fun x y => min x y) w := fun W _ x y => (choose105 W x y).mono fun e w2 ⟨he, hw⟩ => ⟨he, by subst hw; exact Below.refl _ _⟩

set_option maxHeartbeats 1000000 in
set_option maxRecDepth 100000 in
theorem join43 (w : World) (d d' : Int) (A A' : Option Addr) (n c n' c' : Nat) (cs cs' : List (Int × Int)) (h : CatsAt w w.heap.size A n c cs) (h' : CatsAt w w.heap.size A' n' c' cs') (hn : n + n' ≤ 8796093022208) :
    Calls Try.prog 43 #[.agg #[.int .i64 d, .slice A n c], .agg #[.int .i64 d', .slice A' n' c']] w fun e w' => Made (max d d') (mergeL (fun x y => max x y) d cs d' cs') w e w' := by
  obtain ⟨q1, q2, q3, q4⟩ := three_blk w #[.int .i64 d, .slice A n c] #[.int .i64 d', .slice A' n' c'] #[.int .i64 0, .slice none 0 0] 26 26 26
  have HB0 := hid q1
  have HP4 := hid q4
  have H := hid ((h.below q1).more q1.size)
  have H' := hid ((h'.below q1).more q1.size)
  clear h h' q1 q2 q3 q4
  go_enter Try.func43, Try.ntmps43
  go_wp2_with fail
  generalize ((w.alloc (.cells #[.int .i64 d, .slice A n c] 26)).alloc (.cells #[.int .i64 d', .slice A' n' c'] 26)).alloc (.cells #[.int .i64 0, .slice none 0 0] 26) = wb at *
  refine (merge103 wb d d' A A' n c n' c' cs cs' 104 _ (fun x y => max x y) H.out H'.out hn (ok104 wb) eg104).mono ?_
  rintro e w3 ⟨v, F, rfl, hv, hF, hb3⟩
  obtain ⟨A3, n3, c3, rfl, _⟩ := hv.at_
  have k3 := HP4.out.below hb3 HP4.out.lt
  have z0 : w3.cell? ⟨w.heap.size + 1 + 1, 0, none⟩ = some (.int .i64 0) := (Blk.cell k3 0).trans rfl
  have z1 : w3.cell? ⟨w.heap.size + 1 + 1, 1, none⟩ = some (.slice none 0 0) := (Blk.cell k3 1).trans rfl
  have z2 := Blk.frozen k3 0
  have z3 := Blk.frozen k3 1
  have HK := hid k3
  have HV := hid hv
  have HF := hid hF
  have hs2 := HP4.out.lt
  have HB3 := hid (HB0.out.trans (hb3.mono HB0.out.size))
  have hsw := HB0.out.size
  clear k3 hv hF hb3
  go_wp2_with fail
  refine bodyPost_ret (label_run (label_put HK.out _ _) rfl _ rfl) rfl ?_
  exact ⟨_, F, rfl, ((HV.out.far (p := ⟨w.heap.size + 1 + 1, 0, none⟩) hs2 _).far (p := ⟨w.heap.size + 1 + 1, 1, none⟩) hs2 _).mono hsw, HF.out, (HB3.out.setCell (p := ⟨w.heap.size + 1 + 1, 0, none⟩) (by show w.heap.size ≤ w.heap.size + 1 + 1; omega) _).setCell (p := ⟨w.heap.size + 1 + 1, 1, none⟩) (by show w.heap.size ≤ w.heap.size + 1 + 1; omega) _⟩

set_option maxHeartbeats 1000000 in
set_option maxRecDepth 100000 in
theorem meet44 (w : World) (d d' : Int) (A A' : Option Addr) (n c n' c' : Nat) (cs cs' : List (Int × Int)) (h : CatsAt w w.heap.size A n c cs) (h' : CatsAt w w.heap.size A' n' c' cs') (hn : n + n' ≤ 8796093022208) :
    Calls Try.prog 44 #[.agg #[.int .i64 d, .slice A n c], .agg #[.int .i64 d', .slice A' n' c']] w fun e w' => Made (min d d') (mergeL (fun x y => min x y) d cs d' cs') w e w' := by
  obtain ⟨q1, q2, q3, q4⟩ := three_blk w #[.int .i64 d, .slice A n c] #[.int .i64 d', .slice A' n' c'] #[.int .i64 0, .slice none 0 0] 26 26 26
  have HB0 := hid q1
  have HP4 := hid q4
  have H := hid ((h.below q1).more q1.size)
  have H' := hid ((h'.below q1).more q1.size)
  clear h h' q1 q2 q3 q4
  go_enter Try.func44, Try.ntmps44
  go_wp2_with fail
  generalize ((w.alloc (.cells #[.int .i64 d, .slice A n c] 26)).alloc (.cells #[.int .i64 d', .slice A' n' c'] 26)).alloc (.cells #[.int .i64 0, .slice none 0 0] 26) = wb at *
  refine (merge103 wb d d' A A' n c n' c' cs cs' 105 _ (fun x y => min x y) H.out H'.out hn (ok105 wb) eg105).mono ?_
  rintro e w3 ⟨v, F, rfl, hv, hF, hb3⟩
  obtain ⟨A3, n3, c3, rfl, _⟩ := hv.at_
  have k3 := HP4.out.below hb3 HP4.out.lt
  have z0 : w3.cell? ⟨w.heap.size + 1 + 1, 0, none⟩ = some (.int .i64 0) := (Blk.cell k3 0).trans rfl
  have z1 : w3.cell? ⟨w.heap.size + 1 + 1, 1, none⟩ = some (.slice none 0 0) := (Blk.cell k3 1).trans rfl
  have z2 := Blk.frozen k3 0
  have z3 := Blk.frozen k3 1
  have HK := hid k3
  have HV := hid hv
  have HF := hid hF
  have hs2 := HP4.out.lt
  have HB3 := hid (HB0.out.trans (hb3.mono HB0.out.size))
  have hsw := HB0.out.size
  clear k3 hv hF hb3
  go_wp2_with fail
  refine bodyPost_ret (label_run (label_put HK.out _ _) rfl _ rfl) rfl ?_
  exact ⟨_, F, rfl, ((HV.out.far (p := ⟨w.heap.size + 1 + 1, 0, none⟩) hs2 _).far (p := ⟨w.heap.size + 1 + 1, 1, none⟩) hs2 _).mono hsw, HF.out, (HB3.out.setCell (p := ⟨w.heap.size + 1 + 1, 0, none⟩) (by show w.heap.size ≤ w.heap.size + 1 + 1; omega) _).setCell (p := ⟨w.heap.size + 1 + 1, 1, none⟩) (by show w.heap.size ≤ w.heap.size + 1 + 1; omega) _⟩
end Go.Proofs.Ytndohmimcbmhdaa
