/- Tick, Graph, SameIDs. -/
import Derived.Test.YtpobkbedablfeaaRun
namespace Go.Proofs.Ytpobkbedablfeaa
open Go.RowKit

def clampT (t : Int) : Int := if t < 0 then 0 else if t > 4611686018427387904 then 4611686018427387904 else t
def tickN (t e : Int) : Int := if e > 0 ∧ clampT t + 1 ≥ e then 0 else clampT t + 1
def tickB (t e : Int) : Bool := decide (e > 0 ∧ clampT t + 1 ≥ e)
theorem ret_tick {a b : Int} {c d : Bool} (h : a = b) (h' : c = d) : Ending.returned (.tuple #[.int .i64 a, .bool c]) = Ending.returned (.tuple #[.int .i64 b, .bool d]) := by rw [h, h']

set_option maxHeartbeats 1000000 in
theorem tick21 (w : World) (t e : Int) (h1 : -9223372036854775808 ≤ t) (h2 : t ≤ 9223372036854775807) (h3 : -9223372036854775808 ≤ e) (h4 : e ≤ 9223372036854775807) :
    Calls Try.prog 21 #[.int .i64 t, .int .i64 e] w fun r w' => r = .returned (.tuple #[.int .i64 (tickN t e), .bool (tickB t e)]) ∧ w = w' := by
  have HD : Hid (∀ c : Int, c = clampT t → tickN t e = (if e > 0 ∧ c + 1 ≥ e then 0 else c + 1) ∧ tickB t e = decide (e > 0 ∧ c + 1 ≥ e)) := by rintro c rfl; exact ⟨rfl, rfl⟩
  have HC : Hid (clampT t = max 0 (min t 4611686018427387904)) := by show clampT t = _; unfold clampT; split <;> (try split) <;> omega
  go_enter Try.func21, Try.ntmps21
  go_wp2_with fail
  all_goals go_ret2
  · refine ⟨ret_tick ?_ ?_, rfl⟩
    · rw [(HD.out _ HC.out.symm).1, if_pos (by omega)]
    · rw [(HD.out _ HC.out.symm).2]; exact (decide_eq_true (by omega)).symm
  · refine ⟨ret_tick ?_ ?_, rfl⟩
    · rw [(HD.out _ HC.out.symm).1, if_neg (by omega)]
    · rw [(HD.out _ HC.out.symm).2]; exact (decide_eq_false (by omega)).symm
  · refine ⟨ret_tick ?_ ?_, rfl⟩
    · rw [(HD.out _ HC.out.symm).1, if_neg (by omega)]
    · rw [(HD.out _ HC.out.symm).2]; exact (decide_eq_false (by omega)).symm

set_option maxHeartbeats 1000000 in
theorem tick30 (w : World) (t e : Int) (h1 : -9223372036854775808 ≤ t) (h2 : t ≤ 9223372036854775807) (h3 : -9223372036854775808 ≤ e) (h4 : e ≤ 9223372036854775807) :
    Calls Try.prog 30 #[.int .i64 t, .int .i64 e] w fun r w' => r = .returned (.tuple #[.int .i64 (tickN t e), .bool (tickB t e)]) ∧ w = w' := by
  have HD : Hid (∀ c : Int, c = clampT t → tickN t e = (if e > 0 ∧ c + 1 ≥ e then 0 else c + 1) ∧ tickB t e = decide (e > 0 ∧ c + 1 ≥ e)) := by rintro c rfl; exact ⟨rfl, rfl⟩
  have HC : Hid (clampT t = if t < 0 then 0 else if t > 4611686018427387904 then 4611686018427387904 else t) := rfl
  by_cases g1 : t < 0
  · have HC2 : Hid (0 = clampT t) := by show 0 = _; rw [HC.out, if_pos g1]
    go_enter Try.func30, Try.ntmps30
    go_wp2_with fail
    all_goals go_ret2
    all_goals
      refine ⟨ret_tick ?_ ?_, rfl⟩
      · rw [(HD.out _ HC2.out).1]; first | rw [if_pos (by omega)] | (rw [if_neg (by omega)]; try omega)
      · rw [(HD.out _ HC2.out).2]; first | exact (decide_eq_true (by omega)).symm | exact (decide_eq_false (by omega)).symm
  · by_cases g2 : t > 4611686018427387904
    · have HC2 : Hid (4611686018427387904 = clampT t) := by show _ = _; rw [HC.out, if_neg g1, if_pos g2]
      go_enter Try.func30, Try.ntmps30
      go_wp2_with fail
      all_goals go_ret2
      all_goals
        refine ⟨ret_tick ?_ ?_, rfl⟩
        · rw [(HD.out _ HC2.out).1]; first | rw [if_pos (by omega)] | (rw [if_neg (by omega)]; try omega)
        · rw [(HD.out _ HC2.out).2]; first | exact (decide_eq_true (by omega)).symm | exact (decide_eq_false (by omega)).symm
    · have HC2 : Hid (t = clampT t) := by show _ = _; rw [HC.out, if_neg g1, if_neg g2]
      go_enter Try.func30, Try.ntmps30
      go_wp2_with fail
      all_goals go_ret2
      all_goals
        refine ⟨ret_tick ?_ ?_, rfl⟩
        · rw [(HD.out _ HC2.out).1]; first | rw [if_pos (by omega)] | (rw [if_neg (by omega)]; try omega)
        · rw [(HD.out _ HC2.out).2]; first | exact (decide_eq_true (by omega)).symm | exact (decide_eq_false (by omega)).symm

/-- Do the IDs rise? -/
def Rises (ts : List Th) : Prop := ∀ (j : Nat) (s t : Th), ts[j]? = some s → ts[j + 1]? = some t → s.id < t.id

def GraphSays (ts : List Th) (w : World) (e : Ending) (w' : World) : Prop := ∃ r : Bool, e = .returned (.bool r) ∧ (r = true → Rises ts) ∧ Below w.heap.size w w'
theorem cell0 (t : Th) : t.cells[0]? = some (.int .u64 t.id) := rfl

set_option maxHeartbeats 1000000 in
theorem graph25 (w : World) (A : Option Addr) (n c : Nat) (ts : List Th) (h : ThingsAt w w.heap.size A n c ts) :
    Calls Try.prog 25 #[.slice A n c] w fun e w' => GraphSays ts w e w' := by
  have hm : n ≤ 9223372036854775807 := by have := h.cap; have := h.max; unfold maxLen at this; omega
  have mixed : Try.prog.follows .mixedOrders = true := by kernel_rfl
  have H := hidI h
  clear h
  go_enter Try.func25, Try.ntmps25
  go_wp2_with fail
  go_loopw [3] (fun vi wr => ∃ k : Nat, 1 ≤ k ∧ vi = .int .i64 k ∧ Hid (Below w.heap.size w wr) ∧ Hid (∀ (j : Nat) (s t : Th), j + 1 < k → ts[j]? = some s → ts[j + 1]? = some t → s.id < t.id)) (fun vi _ => n + 1 - (intOf vi).toNat)
  case atStart => exact ⟨1, Nat.le_refl _, rfl, Below.refl _ _, fun j y z hj => absurd hj (by omega)⟩
  case round =>
    obtain ⟨k, hk, rfl, BW, AL⟩ := hrel
    by_cases hlt : k < n
    · have hltz : (k : Int) < (n : Int) := by omega
      obtain ⟨kp, hkp⟩ : ∃ kp, kp + 1 = k := ⟨k - 1, by omega⟩
      have hkpz : (k : Int) - 1 = (kp : Int) := by omega
      have hkpn : kp < n := by omega
      obtain ⟨b, off, t, rfl, hbB, hx, hc⟩ := (H.out.below BW.out).at_ hlt
      obtain ⟨b', off', s, e', _, hy, hd⟩ := (H.out.below BW.out).at_ hkpn
      injection e' with e'
      injection e' with e1 e2
      subst e1 e2
      have c0 := hc 0 _ (cell0 t)
      have d0 := hd 0 _ (cell0 s)
      simp only [Nat.add_zero] at c0 d0
      have HX := hidI hx
      have HY := hidI hy
      clear hx hy hc hd
      by_cases hq : t.id ≤ s.id
      · go_wp2_with fail
        go_quiet (fail)
        go_wp2_with fail
        go_ret
        exact ⟨_, rfl, (by intro h; cases h), below_drewN BW.out _⟩
      · go_wp2_with fail
        go_quiet (fail)
        go_wp2_with fail
        go_roundw
        case measure => simp [intOf] <;> omega
        case rel =>
          refine ⟨k + 1, by omega, by go_num, below_drewN BW.out _, (show Hid _ from fun j y z hj hy hz => ?_)⟩
          by_cases e : j + 1 = k
          · have e' : j = kp := by omega
            subst e'
            have h1 := HX.out
            have h2 := HY.out
            rw [← e, hz] at h1
            rw [hy] at h2
            cases h1; cases h2
            omega
          · exact AL.out j y z (by omega) hy hz
    · have hltz : ¬ (k : Int) < (n : Int) := by omega
      go_wp2_with fail
      go_ret
      refine ⟨_, rfl, fun _ j y z hy hz => AL.out j y z ?_ hy hz, BW.out⟩
      have := (List.getElem?_eq_some_iff.1 hz).1
      have := H.out.len
      omega

set_option maxHeartbeats 1000000 in
theorem sameIDs27 (w : World) (A A' : Option Addr) (n c c' : Nat) (l : List Int) (h : NumsAt w w.heap.size A n c l) (h' : NumsAt w w.heap.size A' n c' l) :
    Calls Try.prog 27 #[.slice A n c, .slice A' n c'] w fun e w' => e = .returned (.bool true) ∧ Below w.heap.size w w' := by
  have hm : n ≤ 9223372036854775807 := by have := h.cap; have := h.max; unfold maxLen at this; omega
  have mixed : Try.prog.follows .mixedOrders = true := by kernel_rfl
  have H := hidI h
  have H' := hidI h'
  clear h h'
  go_enter Try.func27, Try.ntmps27
  go_wp2_with fail
  go_loopw [13] (fun vi wr => ∃ k : Nat, k ≤ n ∧ vi = .int .i64 k ∧ Hid (Below w.heap.size w wr)) (fun vi _ => n - (intOf vi).toNat)
  case atStart => exact ⟨0, Nat.zero_le _, rfl, Below.refl _ _⟩
  case round =>
    obtain ⟨k, hk, rfl, BW⟩ := hrel
    by_cases hlt : k < n
    · have hltz : (k : Int) < (n : Int) := by omega
      obtain ⟨b, off, y, rfl, hbB, hx, c0⟩ := (H.out.below BW.out).at_ hlt
      obtain ⟨b', off', y', rfl, hbB', hx', c0'⟩ := (H'.out.below BW.out).at_ hlt
      rw [hx] at hx'
      injection hx' with hx'
      subst hx'
      clear hx
      have hne : (y != y) = false := by simp
      go_wp2_with fail
      go_quiet (fail)
      go_wp2_with fail
      go_roundw
      case measure => simp [intOf] <;> omega
      case rel => exact ⟨k + 1, by omega, by go_num, below_drewN BW.out _⟩
    · have hltz : ¬ (k : Int) < (n : Int) := by omega
      go_wp2_with fail
      go_ret
      exact ⟨rfl, BW.out⟩
end Go.Proofs.Ytpobkbedablfeaa
