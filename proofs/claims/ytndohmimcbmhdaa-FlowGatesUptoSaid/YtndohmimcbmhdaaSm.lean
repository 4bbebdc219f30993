/- label.Same. -/
import Derived.Test.YtndohmimcbmhdaaTn
set_option linter.unusedVariables false
set_option linter.unusedSimpArgs false
namespace Go.Proofs.Ytndohmimcbmhdaa
open Go.RowKit Go.Sort

/-- Two new blocks. -/
theorem two_blk (w : World) (a b : Array Value) (ta tb : TypeId) :
    Below w.heap.size w ((w.alloc (.cells a ta)).alloc (.cells b tb)) ∧ Blk ((w.alloc (.cells a ta)).alloc (.cells b tb)) w.heap.size ta a ∧ Blk ((w.alloc (.cells a ta)).alloc (.cells b tb)) (w.heap.size + 1) tb b := by
  have e1 : (w.alloc (.cells a ta)).heap.size = w.heap.size + 1 := by simp
  have b2 := Blk.new (w.alloc (.cells a ta)) tb b
  rw [e1] at b2
  exact ⟨((Below.refl _ w).alloc (Nat.le_refl _) _).alloc (by omega) _, (Blk.new w ta a).alloc _, b2⟩

def sameB (d : Int) (cs : List (Int × Int)) (d' : Int) (cs' : List (Int × Int)) : Bool := leqB d cs d' cs' && leqB d' cs' d cs

set_option maxHeartbeats 1000000 in
theorem same42 (w : World) (d d' : Int) (A A' : Option Addr) (n c n' c' : Nat) (cs cs' : List (Int × Int)) (h : CatsAt w w.heap.size A n c cs) (h' : CatsAt w w.heap.size A' n' c' cs') :
    Calls Try.prog 42 #[.agg #[.int .i64 d, .slice A n c], .agg #[.int .i64 d', .slice A' n' c']] w fun e w' => e = .returned (.bool (sameB d cs d' cs')) ∧ Below w.heap.size w w' := by
  obtain ⟨q1, q2, q3⟩ := two_blk w #[.int .i64 d, .slice A n c] #[.int .i64 d', .slice A' n' c'] 26 26
  have HB := hid q1
  have HP1 := hid q2
  have HP2 := hid q3
  have H := hid ((h.below q1).more q1.size)
  have H' := hid ((h'.below q1).more q1.size)
  have HS : Hid (sameB d cs d' cs' = (leqB d cs d' cs' && leqB d' cs' d cs)) := rfl
  clear h h' q1 q2 q3
  go_enter Try.func42, Try.ntmps42
  go_wp2_with fail
  generalize (w.alloc (.cells #[.int .i64 d, .slice A n c] 26)).alloc (.cells #[.int .i64 d', .slice A' n' c'] 26) = wa at *
  refine (leq40 wa d d' A A' n c n' c' cs cs' H.out H'.out).mono ?_
  rintro e w1 ⟨rfl, hb1⟩
  have r1 := HP1.out.below hb1 HP1.out.lt
  have r2 := HP2.out.below hb1 HP2.out.lt
  have f1 : w1.cell? ⟨w.heap.size, 0, none⟩ = some (.int .i64 d) := (Blk.cell r1 0).trans rfl
  have f2 : w1.cell? ⟨w.heap.size, 1, none⟩ = some (.slice A n c) := (Blk.cell r1 1).trans rfl
  have f3 : w1.cell? ⟨w.heap.size + 1, 0, none⟩ = some (.int .i64 d') := (Blk.cell r2 0).trans rfl
  have f4 : w1.cell? ⟨w.heap.size + 1, 1, none⟩ = some (.slice A' n' c') := (Blk.cell r2 1).trans rfl
  have HC := hid (leq40 w1 d' d A' A n' c' n c cs' cs ((H'.out.below hb1).more hb1.size) ((H.out.below hb1).more hb1.size))
  have HB1 := hid (HB.out.trans (hb1.mono HB.out.size))
  clear r1 r2 hb1
  generalize leqB d' cs' d cs = b2 at *
  cases hb : leqB d cs d' cs' with
  | false =>
    rw [hb] at HS
    clear hb
    go_wp2_with fail
    go_ret
    exact ⟨by rw [HS.out]; rfl, HB1.out⟩
  | true =>
    rw [hb] at HS
    clear hb
    go_wp2_with fail
    refine HC.out.mono ?_
    rintro e w2 ⟨rfl, hb2⟩
    have HB2 := hid hb2
    clear hb2
    go_wp2_with fail
    go_ret
    exact ⟨by rw [HS.out]; rfl, belowT HB1.out HB2.out⟩
end Go.Proofs.Ytndohmimcbmhdaa
