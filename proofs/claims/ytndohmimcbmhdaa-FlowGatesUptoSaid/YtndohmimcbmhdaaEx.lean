/- The document's Exact; slices.Equal over categories. -/
import Derived.Test.YtndohmimcbmhdaaId
set_option linter.unusedVariables false
set_option linter.unusedSimpArgs false
namespace Go.Proofs.Ytndohmimcbmhdaa
open Go.RowKit Go.Sort

theorem below_drewN' {B : Nat} {a w : World} (h : Below B a w) (n : Nat) : Below B a (w.drewN n) := ⟨h.os, h.tape, h.output, h.size, h.block⟩
def exactB (d : Int) (cs : List (Int × Int)) (d' : Int) (cs' : List (Int × Int)) : Bool := decide (d = d' ∧ cs = cs')
theorem CatsAt.at2_ {w : World} {B : Nat} {A : Option Addr} {n c : Nat} {cs : List (Int × Int)} (h : CatsAt w B A n c cs) {k : Nat} (hk : k < n) : ∃ b off i v, A = some ⟨b, off, none⟩ ∧ b < B ∧ cs[k]? = some (i, v) ∧ w.cell? ⟨b, off + k * 2, none⟩ = some (.int .u64 i) ∧ w.cell? ⟨b, off + k * 2 + 1, none⟩ = some (.int .i64 v) := by
  obtain ⟨b, off, x, e, hb, hx, c0, c1⟩ := h.at_ hk
  exact ⟨b, off, x.1, x.2, e, hb, hx, c0, c1⟩
theorem same_to {cs cs' : List (Int × Int)} {n : Nat} (hl : cs.length = n) (hl' : cs'.length = n) (h : ∀ j, j < n → cs[j]? = cs'[j]?) : cs = cs' := by
  apply List.ext_getElem?
  intro i
  by_cases hi : i < n
  · exact h i hi
  · rw [List.getElem?_eq_none (by omega), List.getElem?_eq_none (by omega)]
theorem differ_at {cs cs' : List (Int × Int)} {k : Nat} {x x' : Int × Int} (hx : cs[k]? = some x) (hx' : cs'[k]? = some x') (hne : ¬ (x.1 = x'.1 ∧ x.2 = x'.2)) : cs ≠ cs' := by
  rintro rfl
  rw [hx] at hx'
  injection hx' with e
  subst e
  exact hne ⟨rfl, rfl⟩

set_option maxHeartbeats 2000000 in
set_option maxRecDepth 100000 in
theorem exact36 (w : World) (d d' : Int) (A A' : Option Addr) (n c n' c' : Nat) (cs cs' : List (Int × Int)) (h : CatsAt w w.heap.size A n c cs) (h' : CatsAt w w.heap.size A' n' c' cs') :
    Calls Try.prog 36 #[.agg #[.int .i64 d, .slice A n c], .agg #[.int .i64 d', .slice A' n' c']] w fun e w' => e = .returned (.bool (exactB d cs d' cs')) ∧ Below w.heap.size w w' := by
  have mixed : Try.prog.follows .mixedOrders = true := by kernel_rfl
  have hm : n ≤ 9223372036854775807 := by have := h.cap; have := h.max; unfold maxLen at this; omega
  obtain ⟨q1, q2, q3⟩ := two_blk w #[.int .i64 d, .slice A n c] #[.int .i64 d', .slice A' n' c'] 26 26
  have HB := hid q1
  have HP1 := hid q2
  have HP2 := hid q3
  have H := hid ((h.below q1).more q1.size)
  have H' := hid ((h'.below q1).more q1.size)
  have HL := hid h.len
  have HL' := hid h'.len
  clear h h' q1 q2 q3
  by_cases hd : d = d'
  · subst hd
    have hdd : (d != d) = false := by simp
    by_cases hnn : n = n'
    · subst hnn
      have hnn2 : ((n : Int) != (n : Int)) = false := by simp
      have hnn3 : (n != n) = false := by simp
      go_enter Try.func36, Try.ntmps36
      go_wp2_with fail
      generalize (w.alloc (.cells #[.int .i64 d, .slice A n c] 26)).alloc (.cells #[.int .i64 d, .slice A' n c'] 26) = wa at *
      go_loopw [23] (fun vi wr => ∃ k : Nat, k ≤ n ∧ vi = .int .i64 k ∧ Hid (Below wa.heap.size wa wr) ∧ Hid (∀ j, j < k → cs[j]? = cs'[j]?)) (fun vi _ => n - (intOf vi).toNat)
      case atStart => exact ⟨0, Nat.zero_le _, rfl, Below.refl _ _, fun j hj => absurd hj (by omega)⟩
      case round =>
        obtain ⟨k, hk, rfl, BW, EQ⟩ := hrel
        by_cases hlt : k < n
        · have hltz : (k : Int) < (n : Int) := by omega
          obtain ⟨b, off, i, v, rfl, hbB, hx, c0, c1⟩ := (H.out.below BW.out).at2_ hlt
          obtain ⟨b', off', i', v', rfl, hbB', hx', c0', c1'⟩ := (H'.out.below BW.out).at2_ hlt
          have HX := hid hx
          have HX' := hid hx'
          clear hx hx'
          have r1 := HP1.out.below BW.out HP1.out.lt
          have r2 := HP2.out.below BW.out HP2.out.lt
          have f2 : wr.cell? ⟨w.heap.size, 1, none⟩ = some (.slice (some ⟨b, off, none⟩) n c) := (Blk.cell r1 1).trans rfl
          have f4 : wr.cell? ⟨w.heap.size + 1, 1, none⟩ = some (.slice (some ⟨b', off', none⟩) n c') := (Blk.cell r2 1).trans rfl
          clear r1 r2
          by_cases hi : i = i'
          · subst hi
            by_cases hv : v = v'
            · subst hv
              go_wp2_with fail
              go_quiet (fail)
              go_wp2_with fail
              go_roundw
              case measure => simp [intOf] <;> omega
              case rel =>
                refine ⟨k + 1, by omega, by go_num, below_drewN' BW.out _, (show Hid _ from fun j hj => ?_)⟩
                by_cases e : j = k
                · subst e; rw [HX.out, HX'.out]
                · exact EQ.out j (by omega)
            · have HE : Hid (exactB d cs d cs' = false) := decide_eq_false fun h => differ_at HX.out HX'.out (fun e => hv e.2) h.2
              have hb : (v == v') = false := by simpa using hv
              go_wp2_with fail
              go_quiet (fail)
              go_wp2_with fail
              go_ret
              exact ⟨by rw [HE.out]; rfl, HB.out.trans ((below_drewN' BW.out _).mono HB.out.size)⟩
          · have HE : Hid (exactB d cs d cs' = false) := decide_eq_false fun h => differ_at HX.out HX'.out (fun e => hi e.1) h.2
            have hb : (i == i') = false := by simpa using hi
            go_wp2_with fail
            go_quiet (fail)
            go_wp2_with fail
            go_ret
            exact ⟨by rw [HE.out]; rfl, HB.out.trans ((below_drewN' BW.out _).mono HB.out.size)⟩
        · have hltz : ¬ (k : Int) < (n : Int) := by omega
          have HE : Hid (exactB d cs d cs' = true) := decide_eq_true ⟨rfl, same_to HL.out HL'.out fun j hj => EQ.out j (by omega)⟩
          go_wp2_with fail
          go_ret
          exact ⟨by rw [HE.out]; rfl, HB.out.trans (BW.out.mono HB.out.size)⟩
    · have HE : Hid (exactB d cs d cs' = false) := decide_eq_false fun h => hnn (by rw [← HL.out, ← HL'.out, h.2])
      have hnz : ¬ (n : Int) = (n' : Int) := by omega
      go_enter Try.func36, Try.ntmps36
      go_wp2_with fail
      go_ret
      exact ⟨by rw [HE.out]; rfl, HB.out⟩
  · have HE : Hid (exactB d cs d' cs' = false) := decide_eq_false fun h => hd h.1
    go_enter Try.func36, Try.ntmps36
    go_wp2_with fail
    go_ret
    exact ⟨by rw [HE.out]; rfl, HB.out⟩
end Go.Proofs.Ytndohmimcbmhdaa
