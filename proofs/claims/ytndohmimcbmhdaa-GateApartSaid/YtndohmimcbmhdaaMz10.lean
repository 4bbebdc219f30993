/- label.Same. -/
import Derived.Test.YtndohmimcbmhdaaMz9
set_option linter.unusedVariables false
set_option linter.unusedSimpArgs false
namespace Go.Proofs.Ytndohmimcbmhdaa
open Go.RowKit Go.Sort

/-- Two new blocks. -/
theorem two_blk (w : World) (a b : Array Value) (ta tb : TypeId) :
    Below w.heap.size w ((w.alloc (.cells a ta)).alloc (.cells b tb)) ∧ Blk ((w.alloc (.cells a ta)).alloc (.cells b tb)) w.heap.size ta a ∧ Blk ((w.alloc (.cells a ta)).alloc (.cells b tb)) (w.heap.size + 1) tb b := by
  have e1 : (w.alloc (.cells a ta)).heap.size = w.heap.size + 1 := by simp
  have b2 := Blk.new (w.alloc (.cells a ta)) tb b
  rw [e1] at b2
  exact ⟨((Below.refl _ w).alloc (Nat.le_refl _) _).alloc (by omega) _, (Blk.new w ta a).alloc _, b2⟩

def sameB (d : Int) (cs : List (Int × Int)) (d' : Int) (cs' : List (Int × Int)) : Bool := leqB d cs d' cs' && leqB d' cs' d cs

set_option maxHeartbeats 1000000 in
theorem same42 (w : World) (d d' : Int) (A A' : Option Addr) (n c n' c' : Nat) (cs cs' : List (Int × Int)) (h : CatsAt w w.heap.size A n c cs) (h' : CatsAt w w.heap.size A' n' c' cs') :
    Calls Try.prog 42 #[.agg #[.int .i64 d, .slice A n c], .agg #[.int .i64 d', .slice A' n' c']] w fun e w' => e = .returned (.bool (sameB d cs d' cs')) ∧ Below w.heap.size w w' := by
  obtain ⟨q1, q2, q3⟩ := two_blk w #[.int .i64 d, .slice A n c] #[.int .i64 d', .slice A' n' c'] 26 26
  have HB := hid q1
  have HP1 := hid q2
  have HP2 := hid q3
  have H := hid ((h.below q1).more q1.size)
  have H' := hid ((h'.below q1).more q1.size)
  have HS : Hid (sameB d cs d' cs' = (leqB d cs d' cs' && leqB d' cs' d cs)) := rfl
  clear h h' q1 q2 q3
  go_enter Try.func42, Try.ntmps42
  go_wp2_with fail
  generalize (w.alloc (.cells #[.int .i64 d, .slice A n c] 26)).alloc (.cells #[.int .i64 d', .slice A' n' c'] 26) = wa at *
  refine (leq40 wa d d' A A' n c n' c' cs cs' H.out H'.out).mono ?_
  rintro e w1 ⟨rfl, hb1⟩
  have r1 := HP1.out.below hb1 HP1.out.lt
  have r2 := HP2.out.below hb1 HP2.out.lt
  have f1 : w1.cell? ⟨w.heap.size, 0, none⟩ = some (.int .i64 d) := (Blk.cell r1 0).trans rfl
  have f2 : w1.cell? ⟨w.heap.size, 1, none⟩ = some (.slice A n c) := (Blk.cell r1 1).trans rfl
  have f3 : w1.cell? ⟨w.heap.size + 1, 0, none⟩ = some (.int .i64 d') := (Blk.cell r2 0).trans rfl
  have f4 : w1.cell? ⟨w.heap.size + 1, 1, none⟩ = some (.slice A' n' c') := (Blk.cell r2 1).trans rfl
  have HC := hid (leq40 w1 d' d A' A n' c' n c cs' cs ((H'.out.below hb1).more hb1.size) ((H.out.below hb1).more hb1.size))
  have HB1 := hid (HB.out.trans (hb1.mono HB.out.size))
  clear r1 r2 hb1
  generalize leqB d' cs' d cs = b2 at *
  cases hb : leqB d cs d' cs' with
  | false =>
    rw [hb] at HS
    clear hb
    go_wp2_with fail
    go_ret
    exact ⟨by rw [HS.out]; rfl, HB1.out⟩
  | true =>
    rw [hb] at HS
    clear hb
    go_wp2_with fail
    refine HC.out.mono ?_
    rintro e w2 ⟨rfl, hb2⟩
    have HB2 := hid hb2
    clear hb2
    go_wp2_with fail
    go_ret
    exact ⟨by rw [HS.out]; rfl, belowT HB1.out HB2.out⟩
end Go.Proofs.Ytndohmimcbmhdaa

/- The chapter's example of labels. -/
set_option linter.unusedVariables false
set_option linter.unusedSimpArgs false
namespace Go.Proofs.Ytndohmimcbmhdaa
open Go.RowKit Go.Sort

theorem isForm_one (d i l : Int) (h : l ≠ d) : IsForm d [(i, l)] [(i, l)] := ⟨List.pairwise_singleton _ _, (by intro x hx; simp at hx; subst hx; exact h), fun _ => rfl, Nat.le_refl _⟩
theorem isForm_two (d i l : Int) (h : l ≠ d) : IsForm d [(i, l), (i, l)] [(i, l)] := by
  refine ⟨List.pairwise_singleton _ _, (by intro x hx; simp at hx; subst hx; exact h), fun id => ?_, by simp⟩
  unfold levelL
  by_cases e : i = id
  · simp [List.find?, e]
  · have e' : (i == id) = false := by simpa using e
    simp [List.find?, e']

theorem cats_one (w : World) (i l : Int) : CatsAt (w.alloc (.cells #[.int .u64 i, .int .i64 l] 32)) (w.alloc (.cells #[.int .u64 i, .int .i64 l] 32)).heap.size (some ⟨w.heap.size, 0, none⟩) 1 1 [(i, l)] := by
  have h : Row (w.alloc (.cells #[.int .u64 i, .int .i64 l] 32)) w.heap.size [(i, l)] [] := Blk.new w 32 #[.int .u64 i, .int .i64 l]
  exact CatsAt.of_row (c := 1) h (by simp) (by simp [maxLen])

theorem three_blk (w : World) (a b l : Array Value) (ta tb tl : TypeId) :
    Below w.heap.size w (((w.alloc (.cells a ta)).alloc (.cells b tb)).alloc (.cells l tl)) ∧ Blk (((w.alloc (.cells a ta)).alloc (.cells b tb)).alloc (.cells l tl)) w.heap.size ta a ∧
    Blk (((w.alloc (.cells a ta)).alloc (.cells b tb)).alloc (.cells l tl)) (w.heap.size + 1) tb b ∧ Blk (((w.alloc (.cells a ta)).alloc (.cells b tb)).alloc (.cells l tl)) (w.heap.size + 1 + 1) tl l := by
  have e1 : (w.alloc (.cells a ta)).heap.size = w.heap.size + 1 := by simp
  have e2 : ((w.alloc (.cells a ta)).alloc (.cells b tb)).heap.size = w.heap.size + 1 + 1 := by simp
  have b2 := Blk.new (w.alloc (.cells a ta)) tb b
  have b3 := Blk.new ((w.alloc (.cells a ta)).alloc (.cells b tb)) tl l
  rw [e1] at b2; rw [e2] at b3
  exact ⟨(((Below.refl _ w).alloc (Nat.le_refl _) _).alloc (by omega) _).alloc (by omega) _, ((Blk.new w ta a).alloc _).alloc _, b2.alloc _, b3⟩

def Raised (w : World) (e : Ending) (w' : World) : Prop := ∃ A n c, e = .returned (.agg #[.int .i64 2, .slice A n c]) ∧ CatsAt w' w'.heap.size A n c [(7, 5)] ∧ Below w.heap.size w w'

set_option maxHeartbeats 4000000 in
set_option maxRecDepth 100000 in
theorem alive33 (w : World) : Calls Try.prog 33 #[] w fun e w' => e = .returned (.bool true) ∧ Below w.heap.size w w' := by
  have mixed : Try.prog.follows .mixedOrders = true := by kernel_rfl
  go_enter Try.func33, Try.ntmps33
  go_wp2_with fail
  refine (make34 _ 2 (some ⟨w.heap.size, 0, none⟩) 1 1 [(7, 4)] (cats_one w 7 4) (by omega)).mono ?_
  rintro e w1 ⟨v, F, rfl, hv, hF, hb1⟩
  obtain rfl : F = [(7, 4)] := hF.unique (isForm_one 2 7 4 (by decide))
  obtain ⟨A1, n1, c1, rfl, hT1⟩ := hv.at_
  have HT1 := hid hT1
  have HB1 := hid (((Below.refl _ w).alloc (Nat.le_refl _) (.cells #[.int .u64 7, .int .i64 4] 32)).trans (hb1.mono (by simp)))
  clear hv hF hb1 hT1
  go_wp2_with fail
  refine (make34 _ 2 (some ⟨w1.heap.size, 0, none⟩) 1 1 [(7, 0)] (cats_one w1 7 0) (by omega)).mono ?_
  rintro e w2 ⟨v, F, rfl, hv, hF, hb2⟩
  obtain rfl : F = [(7, 0)] := hF.unique (isForm_one 2 7 0 (by decide))
  obtain ⟨A2, n2, c2, rfl, hT2⟩ := hv.at_
  have HT2 := hid hT2
  have hb12 : Below w1.heap.size w1 w2 := ((Below.refl _ w1).alloc (Nat.le_refl _) (.cells #[.int .u64 7, .int .i64 0] 32)).trans (hb2.mono (by simp))
  have HT1b := hid ((HT1.out.below hb12).more hb12.size)
  have HB2 := hid (belowT HB1.out hb12)
  clear hv hF hb2 hT2 hb12 HT1 HB1
  go_wp2_with fail
  obtain ⟨q1, q2, q3, q4⟩ := three_blk w2 #[.int .i64 2, .slice none 0 0] #[.int .i64 2, .slice A1 n1 c1] #[.int .i64 2, .slice A2 n2 c2] 26 26 26
  have BX := hid q1
  have P1 := hid q2
  have P2 := hid q3
  have P3 := hid q4
  clear q1 q2 q3 q4
  generalize ((w2.alloc (.cells #[.int .i64 2, .slice none 0 0] 26)).alloc (.cells #[.int .i64 2, .slice A1 n1 c1] 26)).alloc (.cells #[.int .i64 2, .slice A2 n2 c2] 26) = wx at *
  have HF : Hid (∀ W, Below wx.heap.size wx W → ((W.cell? ⟨w2.heap.size, 0, none⟩ = some (.int .i64 2) ∧ W.cell? ⟨w2.heap.size, 1, none⟩ = some (.slice none 0 0)) ∧ (W.cell? ⟨w2.heap.size + 1, 0, none⟩ = some (.int .i64 2) ∧ W.cell? ⟨w2.heap.size + 1, 1, none⟩ = some (.slice A1 n1 c1)) ∧ (W.cell? ⟨w2.heap.size + 1 + 1, 0, none⟩ = some (.int .i64 2) ∧ W.cell? ⟨w2.heap.size + 1 + 1, 1, none⟩ = some (.slice A2 n2 c2)))) := by
    intro W hW
    have r1 := P1.out.below hW P1.out.lt
    have r2 := P2.out.below hW P2.out.lt
    have r3 := P3.out.below hW P3.out.lt
    exact ⟨⟨(Blk.cell r1 0).trans rfl, (Blk.cell r1 1).trans rfl⟩, ⟨(Blk.cell r2 0).trans rfl, (Blk.cell r2 1).trans rfl⟩, ⟨(Blk.cell r3 0).trans rfl, (Blk.cell r3 1).trans rfl⟩⟩
  have HX1 := hid ((HT1b.out.below BX.out).more BX.out.size)
  have HX2 := hid ((HT2.out.below BX.out).more BX.out.size)
  have HWX := hid (belowT HB2.out BX.out)
  have C40a : Hid (∀ W, Below wx.heap.size wx W → ∀ aa, aa = #[.agg #[.int .i64 2, .slice A1 n1 c1], .agg #[.int .i64 2, .slice none 0 0]] → Calls Try.prog 40 aa W fun e w' => e = .returned (.bool false) ∧ Below W.heap.size W w') := by
    rintro W hW aa rfl
    exact leq40 W 2 2 A1 none n1 c1 0 0 [(7, 4)] [] ((HX1.out.below hW).more hW.size) CatsAt.nil_
  have C40b : Hid (∀ W, Below wx.heap.size wx W → ∀ aa, aa = #[.agg #[.int .i64 2, .slice none 0 0], .agg #[.int .i64 2, .slice A1 n1 c1]] → Calls Try.prog 40 aa W fun e w' => e = .returned (.bool true) ∧ Below W.heap.size W w') := by
    rintro W hW aa rfl
    exact leq40 W 2 2 none A1 0 0 n1 c1 [] [(7, 4)] CatsAt.nil_ ((HX1.out.below hW).more hW.size)
  have C40c : Hid (∀ W, Below wx.heap.size wx W → ∀ A3 n3 c3, CatsAt W W.heap.size A3 n3 c3 [(7, 5)] → ∀ aa, aa = #[.agg #[.int .i64 2, .slice A1 n1 c1], .agg #[.int .i64 2, .slice A3 n3 c3]] → Calls Try.prog 40 aa W fun e w' => e = .returned (.bool true) ∧ Below W.heap.size W w') := by
    rintro W hW A3 n3 c3 h3 aa rfl
    exact leq40 W 2 2 A1 A3 n1 c1 n3 c3 [(7, 4)] [(7, 5)] ((HX1.out.below hW).more hW.size) h3
  have C46 : Hid (∀ W, Below wx.heap.size wx W → Calls Try.prog 46 #[.agg #[.int .i64 2, .slice A2 n2 c2]] W fun e w' => Raised W e w') := by
    intro W hW
    refine (raise46 W 2 A2 n2 c2 [(7, 0)] ((HX2.out.below hW).more hW.size) (by have := HX2.out.len; simp at this; omega)).mono ?_
    rintro e w' ⟨v, F, rfl, hv, hF, hb⟩
    obtain rfl : F = [(7, 5)] := hF.unique (isForm_two 2 7 5 (by decide))
    obtain ⟨A3, n3, c3, rfl, hT3⟩ := hv.at_
    exact ⟨A3, n3, c3, rfl, hT3, hb⟩
  have C37a : Hid (∀ W, Below wx.heap.size wx W → ∀ aa, aa = #[.agg #[.int .i64 2, .slice A1 n1 c1], .int .u64 7] → Calls Try.prog 37 aa W fun e w' => e = .returned (.int .i64 4) ∧ Below W.heap.size W w') := by
    rintro W hW aa rfl
    exact level_b W 2 A1 n1 c1 [(7, 4)] 7 ((HX1.out.below hW).more hW.size)
  have C37b : Hid (∀ W, Below wx.heap.size wx W → ∀ aa, aa = #[.agg #[.int .i64 2, .slice A1 n1 c1], .int .u64 8] → Calls Try.prog 37 aa W fun e w' => e = .returned (.int .i64 2) ∧ Below W.heap.size W w') := by
    rintro W hW aa rfl
    exact level_b W 2 A1 n1 c1 [(7, 4)] 8 ((HX1.out.below hW).more hW.size)
  obtain ⟨⟨f1, f2⟩, ⟨f3, f4⟩, ⟨f5, f6⟩⟩ := HF.out wx (Below.refl _ _)
  clear HX1 HX2 P1 P2 P3 HT2 HT1b BX
  go_region_held3 (fun w' => ((w'.cell? ⟨w2.heap.size, 0, none⟩ = some (.int .i64 2) ∧ w'.cell? ⟨w2.heap.size, 1, none⟩ = some (.slice none 0 0)) ∧ (w'.cell? ⟨w2.heap.size + 1, 0, none⟩ = some (.int .i64 2) ∧ w'.cell? ⟨w2.heap.size + 1, 1, none⟩ = some (.slice A1 n1 c1)) ∧ (w'.cell? ⟨w2.heap.size + 1 + 1, 0, none⟩ = some (.int .i64 2) ∧ w'.cell? ⟨w2.heap.size + 1 + 1, 1, none⟩ = some (.slice A2 n2 c2))))
    (first | go_keep | exact HF.out _ hbx)
    (first
      | (go_at_call 40; refine (C40c.out _ hbx _ _ _ hT3 _ ?_).mono ?_; exact rfl; rintro e w4 ⟨rfl, hb4⟩; have hbx : Below wx.heap.size wx w4 := hbx.trans (hb4.mono hbx.size))
      | (go_at_call 40; refine (C40b.out _ hbx _ ?_).mono ?_; exact rfl; rintro e w4 ⟨rfl, hb4⟩; have hbx : Below wx.heap.size wx w4 := hbx.trans (hb4.mono hbx.size))
      | (go_at_call 40; refine (C40a.out _ (Below.refl _ _).drew _ ?_).mono ?_; exact rfl; rintro e w4 ⟨rfl, hb4⟩; have hbx : Below wx.heap.size wx w4 := (Below.refl _ wx).drew.trans hb4)
      | (go_at_call 46; refine (C46.out _ hbx).mono ?_; rintro e w4 ⟨A3, n3, c3, rfl, hT3, hb4⟩; have hbx : Below wx.heap.size wx w4 := hbx.trans (hb4.mono hbx.size))
      | (go_at_call 37; refine (C37a.out _ hbx _ ?_).mono ?_; exact rfl; rintro e w4 ⟨rfl, hb4⟩; have hbx : Below wx.heap.size wx w4 := hbx.trans (hb4.mono hbx.size))
      | (go_at_call 37; refine (C37b.out _ hbx _ ?_).mono ?_; exact rfl; rintro e w4 ⟨rfl, hb4⟩; have hbx : Below wx.heap.size wx w4 := hbx.trans (hb4.mono hbx.size)))
  go_wp2_with fail
  go_ret
  exact ⟨rfl, belowT HWX.out hbx⟩
end Go.Proofs.Ytndohmimcbmhdaa

/- label.Join, label.Meet. -/
set_option linter.unusedVariables false
set_option linter.unusedSimpArgs false
namespace Go.Proofs.Ytndohmimcbmhdaa
open Go.RowKit Go.Sort

set_option maxHeartbeats 400000 in
theorem choose104 (w : World) (x y : Int) : Calls Try.prog 104 #[.int .i64 x, .int .i64 y] w fun e w' => e = .returned (.int .i64 (max x y)) ∧ w = w' := by
  go_enter Try.func104, Try.ntmps104
  go_wp2_with fail
  go_ret
  exact ⟨rfl, rfl⟩
theorem eg104 : ∀ args w, (callFunc 104 args).run Try.prog w = .ok (.enter 104 args) w := fun args w => by
  first | kernel_rfl | (simp [callFunc]; done)
theorem ok104 (w : World) : ChooseOk 104 #[] (fun x y => max x y) w := fun W _ x y => (choose104 W x y).mono fun e w2 ⟨he, hw⟩ => ⟨he, by subst hw; exact Below.refl _ _⟩

set_option maxHeartbeats 400000 in
theorem choose105 (w : World) (x y : Int) : Calls Try.prog 105 #[.int .i64 x, .int .i64 y] w fun e w' => e = .returned (.int .i64 (min x y)) ∧ w = w' := by
  go_enter Try.func105, Try.ntmps105
  go_wp2_with fail
  go_ret
  exact ⟨rfl, rfl⟩
theorem eg105 : ∀ args w, (callFunc 105 args).run Try.prog w = .ok (.enter 105 args) w := fun args w => by
  first | kernel_rfl | (simp [callFunc]; done)
theorem ok105 (w : World) : ChooseOk 105 #[] (fun x y => min x y) w := fun W _ x y => (choose105 W x y).mono fun e w2 ⟨he, hw⟩ => ⟨he, by subst hw; exact Below.refl _ _⟩

set_option maxHeartbeats 1000000 in
set_option maxRecDepth 100000 in
theorem join43 (w : World) (d d' : Int) (A A' : Option Addr) (n c n' c' : Nat) (cs cs' : List (Int × Int)) (h : CatsAt w w.heap.size A n c cs) (h' : CatsAt w w.heap.size A' n' c' cs') (hn : n + n' ≤ 8796093022208) :
    Calls Try.prog 43 #[.agg #[.int .i64 d, .slice A n c], .agg #[.int .i64 d', .slice A' n' c']] w fun e w' => Made (max d d') (mergeL (fun x y => max x y) d cs d' cs') w e w' := by
  obtain ⟨q1, q2, q3, q4⟩ := three_blk w #[.int .i64 d, .slice A n c] #[.int .i64 d', .slice A' n' c'] #[.int .i64 0, .slice none 0 0] 26 26 26
  have HB0 := hid q1
  have HP4 := hid q4
  have H := hid ((h.below q1).more q1.size)
  have H' := hid ((h'.below q1).more q1.size)
  clear h h' q1 q2 q3 q4
  go_enter Try.func43, Try.ntmps43
  go_wp2_with fail
  generalize ((w.alloc (.cells #[.int .i64 d, .slice A n c] 26)).alloc (.cells #[.int .i64 d', .slice A' n' c'] 26)).alloc (.cells #[.int .i64 0, .slice none 0 0] 26) = wb at *
  refine (merge103 wb d d' A A' n c n' c' cs cs' 104 _ (fun x y => max x y) H.out H'.out hn (ok104 wb) eg104).mono ?_
  rintro e w3 ⟨v, F, rfl, hv, hF, hb3⟩
  obtain ⟨A3, n3, c3, rfl, _⟩ := hv.at_
  have k3 := HP4.out.below hb3 HP4.out.lt
  have z0 : w3.cell? ⟨w.heap.size + 1 + 1, 0, none⟩ = some (.int .i64 0) := (Blk.cell k3 0).trans rfl
  have z1 : w3.cell? ⟨w.heap.size + 1 + 1, 1, none⟩ = some (.slice none 0 0) := (Blk.cell k3 1).trans rfl
  have z2 := Blk.frozen k3 0
  have z3 := Blk.frozen k3 1
  have HK := hid k3
  have HV := hid hv
  have HF := hid hF
  have hs2 := HP4.out.lt
  have HB3 := hid (HB0.out.trans (hb3.mono HB0.out.size))
  have hsw := HB0.out.size
  clear k3 hv hF hb3
  go_wp2_with fail
  refine bodyPost_ret (label_run (label_put HK.out _ _) rfl _ rfl) rfl ?_
  exact ⟨_, F, rfl, ((HV.out.far (p := ⟨w.heap.size + 1 + 1, 0, none⟩) hs2 _).far (p := ⟨w.heap.size + 1 + 1, 1, none⟩) hs2 _).mono hsw, HF.out, (HB3.out.setCell (p := ⟨w.heap.size + 1 + 1, 0, none⟩) (by show w.heap.size ≤ w.heap.size + 1 + 1; omega) _).setCell (p := ⟨w.heap.size + 1 + 1, 1, none⟩) (by show w.heap.size ≤ w.heap.size + 1 + 1; omega) _⟩

set_option maxHeartbeats 1000000 in
set_option maxRecDepth 100000 in
theorem meet44 (w : World) (d d' : Int) (A A' : Option Addr) (n c n' c' : Nat) (cs cs' : List (Int × Int)) (h : CatsAt w w.heap.size A n c cs) (h' : CatsAt w w.heap.size A' n' c' cs') (hn : n + n' ≤ 8796093022208) :
    Calls Try.prog 44 #[.agg #[.int .i64 d, .slice A n c], .agg #[.int .i64 d', .slice A' n' c']] w fun e w' => Made (min d d') (mergeL (fun x y => min x y) d cs d' cs') w e w' := by
  obtain ⟨q1, q2, q3, q4⟩ := three_blk w #[.int .i64 d, .slice A n c] #[.int .i64 d', .slice A' n' c'] #[.int .i64 0, .slice none 0 0] 26 26 26
  have HB0 := hid q1
  have HP4 := hid q4
  have H := hid ((h.below q1).more q1.size)
  have H' := hid ((h'.below q1).more q1.size)
  clear h h' q1 q2 q3 q4
  go_enter Try.func44, Try.ntmps44
  go_wp2_with fail
  generalize ((w.alloc (.cells #[.int .i64 d, .slice A n c] 26)).alloc (.cells #[.int .i64 d', .slice A' n' c'] 26)).alloc (.cells #[.int .i64 0, .slice none 0 0] 26) = wb at *
  refine (merge103 wb d d' A A' n c n' c' cs cs' 105 _ (fun x y => min x y) H.out H'.out hn (ok105 wb) eg105).mono ?_
  rintro e w3 ⟨v, F, rfl, hv, hF, hb3⟩
  obtain ⟨A3, n3, c3, rfl, _⟩ := hv.at_
  have k3 := HP4.out.below hb3 HP4.out.lt
  have z0 : w3.cell? ⟨w.heap.size + 1 + 1, 0, none⟩ = some (.int .i64 0) := (Blk.cell k3 0).trans rfl
  have z1 : w3.cell? ⟨w.heap.size + 1 + 1, 1, none⟩ = some (.slice none 0 0) := (Blk.cell k3 1).trans rfl
  have z2 := Blk.frozen k3 0
  have z3 := Blk.frozen k3 1
  have HK := hid k3
  have HV := hid hv
  have HF := hid hF
  have hs2 := HP4.out.lt
  have HB3 := hid (HB0.out.trans (hb3.mono HB0.out.size))
  have hsw := HB0.out.size
  clear k3 hv hF hb3
  go_wp2_with fail
  refine bodyPost_ret (label_run (label_put HK.out _ _) rfl _ rfl) rfl ?_
  exact ⟨_, F, rfl, ((HV.out.far (p := ⟨w.heap.size + 1 + 1, 0, none⟩) hs2 _).far (p := ⟨w.heap.size + 1 + 1, 1, none⟩) hs2 _).mono hsw, HF.out, (HB3.out.setCell (p := ⟨w.heap.size + 1 + 1, 0, none⟩) (by show w.heap.size ≤ w.heap.size + 1 + 1; omega) _).setCell (p := ⟨w.heap.size + 1 + 1, 1, none⟩) (by show w.heap.size ≤ w.heap.size + 1 + 1; omega) _⟩
end Go.Proofs.Ytndohmimcbmhdaa
