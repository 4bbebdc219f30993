/- label.Leq, label.Same. -/
import Derived.Test.YtndohmimcbmhdaaLev
set_option linter.unusedVariables false
set_option linter.unusedSimpArgs false
namespace Go.Proofs.Ytndohmimcbmhdaa
open Go.RowKit Go.Sort

def leqB (d : Int) (cs : List (Int × Int)) (d' : Int) (cs' : List (Int × Int)) : Bool :=
  decide (d ≤ d') && !(cs.any (aboveT d cs d' cs')) && !(cs'.any (aboveT d cs d' cs'))

theorem eg101 : ∀ args w, (callFunc 101 args).run Try.prog w = .ok (.enter 101 args) w := fun args w => by
  first | kernel_rfl | (simp [callFunc]; done)

set_option maxHeartbeats 1000000 in
theorem leq40 (w : World) (d d' : Int) (A A' : Option Addr) (n c n' c' : Nat) (cs cs' : List (Int × Int)) (h : CatsAt w w.heap.size A n c cs) (h' : CatsAt w w.heap.size A' n' c' cs') :
    Calls Try.prog 40 #[.agg #[.int .i64 d, .slice A n c], .agg #[.int .i64 d', .slice A' n' c']] w fun e w' => e = .returned (.bool (leqB d cs d' cs')) ∧ Below w.heap.size w w' := by
  have HB : Hid (Below w.heap.size w ((w.alloc (.cells #[.int .i64 d, .slice A n c] 26)).alloc (.cells #[.int .i64 d', .slice A' n' c'] 26))) := ((Below.refl _ w).alloc (Nat.le_refl _) _).alloc (by simp) _
  have P1 : Blk ((w.alloc (.cells #[.int .i64 d, .slice A n c] 26)).alloc (.cells #[.int .i64 d', .slice A' n' c'] 26)) w.heap.size 26 #[.int .i64 d, .slice A n c] := (Blk.new w 26 #[.int .i64 d, .slice A n c]).alloc _
  have P2 : Blk ((w.alloc (.cells #[.int .i64 d, .slice A n c] 26)).alloc (.cells #[.int .i64 d', .slice A' n' c'] 26)) (w.heap.size + 1) 26 #[.int .i64 d', .slice A' n' c'] := by
    have := Blk.new (w.alloc (.cells #[.int .i64 d, .slice A n c] 26)) 26 #[.int .i64 d', .slice A' n' c']
    have e : (w.alloc (.cells #[.int .i64 d, .slice A n c] 26)).heap.size = w.heap.size + 1 := by simp
    rwa [e] at this
  have C1 := (h.below HB.out).more HB.out.size
  have C2 := (h'.below HB.out).more HB.out.size
  have HS : Hid (leqB d cs d' cs' = (decide (d ≤ d') && !(cs.any (aboveT d cs d' cs')) && !(cs'.any (aboveT d cs d' cs')))) := rfl
  by_cases hd : d ≤ d'
  · have HD : Hid (decide (d ≤ d') = true) := decide_eq_true hd
    go_enter Try.func40, Try.ntmps40
    go_wp2_with fail
    clear h h'
    generalize (w.alloc (.cells #[.int .i64 d, .slice A n c] 26)).alloc (.cells #[.int .i64 d', .slice A' n' c'] 26) = wa at *
    have HT : Hid (∀ W, Below wa.heap.size wa W → TestOk 101 #[.pointer (some ⟨w.heap.size, 0, none⟩), .pointer (some ⟨w.heap.size + 1, 0, none⟩)] (aboveT d cs d' cs') W) := by
      intro W hW W' hW' x
      have hb : Below wa.heap.size wa W' := hW.trans (hW'.mono hW.size)
      exact (above101 W' x w.heap.size (w.heap.size + 1) d d' A A' n c n' c' cs cs' (P1.below hb P1.lt) (P2.below hb P2.lt) ((C1.below hb).more hb.size) ((C2.below hb).more hb.size)).mono fun e w2 ⟨he, hw⟩ => ⟨he, hW'.trans (hw.mono hW'.size)⟩
    have HC1 : Hid (∀ W, Below wa.heap.size wa W → ∀ aa, aa = #[.slice A n c, .func (.func 101) #[] #[.pointer (some ⟨w.heap.size, 0, none⟩), .pointer (some ⟨w.heap.size + 1, 0, none⟩)]] → Calls Try.prog 102 aa W fun e w' => e = .returned (.bool (cs.any (aboveT d cs d' cs'))) ∧ Below W.heap.size W w') := by
      rintro W hW aa rfl; exact containsFunc102 W A n c cs 101 _ _ ((C1.below hW).more hW.size) (HT.out W hW) eg101
    have HC2 : Hid (∀ W, Below wa.heap.size wa W → ∀ aa, aa = #[.slice A' n' c', .func (.func 101) #[] #[.pointer (some ⟨w.heap.size, 0, none⟩), .pointer (some ⟨w.heap.size + 1, 0, none⟩)]] → Calls Try.prog 102 aa W fun e w' => e = .returned (.bool (cs'.any (aboveT d cs d' cs'))) ∧ Below W.heap.size W w') := by
      rintro W hW aa rfl; exact containsFunc102 W A' n' c' cs' 101 _ _ ((C2.below hW).more hW.size) (HT.out W hW) eg101
    have HP : Hid (∀ W, Below wa.heap.size wa W → W.cell? ⟨w.heap.size + 1, 1, none⟩ = some (.slice A' n' c')) := fun W hW => (Blk.cell (P2.below hW P2.lt) 1).trans rfl
    clear P1 P2 C1 C2 HT
    generalize cs.any (aboveT d cs d' cs') = b1 at *
    generalize cs'.any (aboveT d cs d' cs') = b2 at *
    refine (HC1.out wa (Below.refl _ _) _ rfl).mono ?_
    rintro e w1 ⟨rfl, hb1⟩
    have f1 := HP.out w1 hb1
    have HB1 := hid hb1
    clear hb1
    cases b1 with
    | true =>
      go_wp2_with fail
      go_ret
      exact ⟨by rw [HS.out, HD.out]; rfl, HB.out.trans (HB1.out.mono HB.out.size)⟩
    | false =>
      go_wp2_with fail
      refine (HC2.out w1 HB1.out _ rfl).mono ?_
      rintro e w2 ⟨rfl, hb2⟩
      have HB2 := hid hb2
      clear hb2
      go_wp2_with fail
      go_ret
      exact ⟨by rw [HS.out, HD.out]; rfl, belowT (HB.out.trans (HB1.out.mono HB.out.size)) HB2.out⟩
  · have HD : Hid (decide (d ≤ d') = false) := decide_eq_false hd
    go_enter Try.func40, Try.ntmps40
    go_wp2_with fail
    go_ret
    exact ⟨by rw [HS.out, HD.out]; rfl, HB.out⟩
end Go.Proofs.Ytndohmimcbmhdaa
