/- slices.Equal over categories; what Right asks of each. -/
import Derived.Test.YtndohmimcbmhdaaEx
set_option linter.unusedVariables false
set_option linter.unusedSimpArgs false
namespace Go.Proofs.Ytndohmimcbmhdaa
open Go.RowKit Go.Sort

def eqB (cs cs' : List (Int × Int)) : Bool := decide (cs = cs')
set_option maxHeartbeats 2000000 in
set_option maxRecDepth 100000 in
theorem equal108 (w : World) (A A' : Option Addr) (n c n' c' : Nat) (cs cs' : List (Int × Int)) (h : CatsAt w w.heap.size A n c cs) (h' : CatsAt w w.heap.size A' n' c' cs') :
    Calls Try.prog 108 #[.slice A n c, .slice A' n' c'] w fun e w' => e = .returned (.bool (eqB cs cs')) ∧ Below w.heap.size w w' := by
  have mixed : Try.prog.follows .mixedOrders = true := by kernel_rfl
  have hm : n ≤ 9223372036854775807 := by have := h.cap; have := h.max; unfold maxLen at this; omega
  have H := hid h
  have H' := hid h'
  have HL := hid h.len
  have HL' := hid h'.len
  clear h h'
  by_cases hnn : n = n'
  · subst hnn
    have hnn2 : ((n : Int) != (n : Int)) = false := by simp
    have hnn3 : (n != n) = false := by simp
    go_enter Try.func108, Try.ntmps108
    go_wp2_with fail
    go_loopw [13] (fun vi wr => ∃ k : Nat, k ≤ n ∧ vi = .int .i64 k ∧ Hid (Below w.heap.size w wr) ∧ Hid (∀ j, j < k → cs[j]? = cs'[j]?)) (fun vi _ => n - (intOf vi).toNat)
    case atStart => exact ⟨0, Nat.zero_le _, rfl, Below.refl _ _, fun j hj => absurd hj (by omega)⟩
    case round =>
      obtain ⟨k, hk, rfl, BW, EQ⟩ := hrel
      by_cases hlt : k < n
      · have hltz : (k : Int) < (n : Int) := by omega
        obtain ⟨b, off, i, v, rfl, hbB, hx, c0, c1⟩ := (H.out.below BW.out).at2_ hlt
        obtain ⟨b', off', i', v', rfl, hbB', hx', c0', c1'⟩ := (H'.out.below BW.out).at2_ hlt
        have HX := hid hx
        have HX' := hid hx'
        clear hx hx'
        by_cases hi : i = i'
        · subst hi
          by_cases hv : v = v'
          · subst hv
            go_wp2_with fail
            go_quiet (fail)
            go_wp2_with fail
            go_roundw
            case measure => simp [intOf] <;> omega
            case rel =>
              refine ⟨k + 1, by omega, by go_num, below_drewN' BW.out _, (show Hid _ from fun j hj => ?_)⟩
              by_cases e : j = k
              · subst e; rw [HX.out, HX'.out]
              · exact EQ.out j (by omega)
          · have HE : Hid (eqB cs cs' = false) := decide_eq_false fun h => differ_at HX.out HX'.out (fun e => hv e.2) h
            have hb : (v == v') = false := by simpa using hv
            go_wp2_with fail
            go_quiet (fail)
            go_wp2_with fail
            go_ret
            exact ⟨by rw [HE.out]; rfl, below_drewN' BW.out _⟩
        · have HE : Hid (eqB cs cs' = false) := decide_eq_false fun h => differ_at HX.out HX'.out (fun e => hi e.1) h
          have hb : (i == i') = false := by simpa using hi
          go_wp2_with fail
          go_quiet (fail)
          go_wp2_with fail
          go_ret
          exact ⟨by rw [HE.out]; rfl, below_drewN' BW.out _⟩
      · have hltz : ¬ (k : Int) < (n : Int) := by omega
        have HE : Hid (eqB cs cs' = true) := decide_eq_true (same_to HL.out HL'.out fun j hj => EQ.out j (by omega))
        go_wp2_with fail
        go_ret
        exact ⟨by rw [HE.out]; rfl, BW.out⟩
  · have HE : Hid (eqB cs cs' = false) := decide_eq_false fun h => hnn (by rw [← HL.out, ← HL'.out, h])
    have hnz : ¬ (n : Int) = (n' : Int) := by omega
    go_enter Try.func108, Try.ntmps108
    go_wp2_with fail
    go_ret
    exact ⟨by rw [HE.out]; rfl, Below.refl _ _⟩

/-- What may not be in a right label. -/
def oddC (x : Int × Int) : Bool := decide (x.1 < 1 ∨ x.1 > 2305843009213693951 ∨ x.2 < 0 ∨ x.2 > 4)
set_option maxHeartbeats 1000000 in
theorem odd109 (x : Int × Int) (W : World) : Calls Try.prog 109 #[.agg #[.int .u64 x.1, .int .i64 x.2]] W fun e w' => e = .returned (.bool (oddC x)) ∧ Below W.heap.size W w' := by
  obtain ⟨i, v⟩ := x
  show Calls Try.prog 109 #[.agg #[.int .u64 i, .int .i64 v]] W _
  have HB := hid ((Below.refl W.heap.size W).alloc (Nat.le_refl _) (.cells #[.int .u64 i, .int .i64 v] 32))
  by_cases h1 : i < 1
  · have HO : Hid (oddC (i, v) = true) := decide_eq_true (.inl h1)
    go_enter Try.func109, Try.ntmps109
    go_wp2_with fail
    go_ret
    exact ⟨by rw [HO.out]; rfl, HB.out⟩
  · by_cases h2 : 2305843009213693951 < i
    · have HO : Hid (oddC (i, v) = true) := decide_eq_true (.inr (.inl h2))
      go_enter Try.func109, Try.ntmps109
      go_wp2_with fail
      go_ret
      exact ⟨by rw [HO.out]; rfl, HB.out⟩
    · by_cases h3 : v < 0
      · have HO : Hid (oddC (i, v) = true) := decide_eq_true (.inr (.inr (.inl h3)))
        go_enter Try.func109, Try.ntmps109
        go_wp2_with fail
        go_ret
        exact ⟨by rw [HO.out]; rfl, HB.out⟩
      · by_cases h4 : 4 < v
        · have HO : Hid (oddC (i, v) = true) := decide_eq_true (.inr (.inr (.inr h4)))
          go_enter Try.func109, Try.ntmps109
          go_wp2_with fail
          go_ret
          exact ⟨by rw [HO.out]; rfl, HB.out⟩
        · have HO : Hid (oddC (i, v) = false) := decide_eq_false (by simp only; omega)
          go_enter Try.func109, Try.ntmps109
          go_wp2_with fail
          go_ret
          exact ⟨by rw [HO.out]; rfl, HB.out⟩
theorem eg109 : ∀ args w, (callFunc 109 args).run Try.prog w = .ok (.enter 109 args) w := fun args w => by
  first | kernel_rfl | (simp [callFunc]; done)
end Go.Proofs.Ytndohmimcbmhdaa
