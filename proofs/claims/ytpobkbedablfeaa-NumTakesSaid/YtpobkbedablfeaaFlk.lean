/- Plain facts on the kinds of doubles: infinities and zeros, told by order and by bits. -/
import Derived.Test.YtpobkbedablfeaaFlt
namespace Go.Proofs.Ytpobkbedablfeaa
open Go.RowKit Ieee

theorem nat_xor_top (b : Nat) (h : b < 18446744073709551616) : b ^^^ 9223372036854775808 = if b < 9223372036854775808 then b + 9223372036854775808 else b - 9223372036854775808 := by
  have e : (9223372036854775808 : Nat) = 2 ^ 63 := by decide
  have hm : (b ^^^ 9223372036854775808) % 2 ^ 63 = b % 2 ^ 63 := by
    rw [e, Nat.xor_mod_two_pow, Nat.mod_self, Nat.xor_zero]
  have hd : (b ^^^ 9223372036854775808) / 2 ^ 63 = (b / 2 ^ 63) ^^^ 1 := by
    rw [e, Nat.xor_div_two_pow, Nat.div_self (Nat.two_pow_pos _)]
  have hq : b / 2 ^ 63 = 0 ∨ b / 2 ^ 63 = 1 := by omega
  have := Nat.div_add_mod (b ^^^ 9223372036854775808) (2 ^ 63)
  rw [hm, hd] at this
  split
  · have h0 : b / 2 ^ 63 = 0 := by omega
    rw [h0] at this; simp at this; omega
  · have h0 : b / 2 ^ 63 = 1 := by omega
    rw [h0] at this; simp at this; omega

theorem read_inf (a : Nat) (h : a % 9223372036854775808 = 9218868437227405312) : double.read a = .infinity (a / 9223372036854775808 % 2 == 1) := by
  unfold Format.read
  simp only [double_sign, double_inf, double_binade]
  rw [if_neg (by omega), if_neg (by omega), if_pos h]

theorem read_fin (a : Nat) (h : a % 9223372036854775808 < 9218868437227405312) : ∃ (m : Nat) (p : Int), double.read a = .number (a / 9223372036854775808 % 2 == 1) m p ∧ m ≤ 9007199254740991 ∧ p ≤ 971 ∧ (m = 0 ↔ a % 9223372036854775808 = 0) := by
  unfold Format.read
  simp only [double_sign, double_inf, double_binade]
  have hl : double.leastPlace = -1074 := by decide
  by_cases h1 : a % 9223372036854775808 < 4503599627370496
  · rw [if_pos h1]; exact ⟨_, _, rfl, by omega, by omega, by omega⟩
  · rw [if_neg h1, if_pos h]; exact ⟨_, _, rfl, by omega, by omega, by omega⟩

theorem read_max : double.read 9218868437227405311 = .number false 9007199254740991 971 := by decide
theorem read_zero : double.read 0 = .number false 0 (-1074) := by decide

theorem signed_zero (s : Bool) (u : Nat) : signed s 0 u = 0 := by cases s <;> simp [signed]
theorem shl_pos (m u : Nat) (h : 0 < m) : 0 < m <<< u := by rw [Nat.shiftLeft_eq]; exact Nat.mul_pos h (Nat.two_pow_pos _)

theorem signed_ne (s : Bool) {m u : Nat} (h : 0 < m) : signed s m u ≠ 0 := by
  have := shl_pos m u h
  cases s
  · show ((m <<< u : Nat) : Int) ≠ 0
    omega
  · show -((m <<< u : Nat) : Int) ≠ 0
    omega

theorem signed_le (s : Bool) {m M u : Nat} (h : m ≤ M) (h2 : M ≤ M <<< u) : signed s m 0 ≤ signed false M u := by
  have e : signed false M u = ((M <<< u : Nat) : Int) := rfl
  rw [e]
  generalize M <<< u = y at h2
  cases s
  · show ((m <<< 0 : Nat) : Int) ≤ _
    rw [Nat.shiftLeft_zero]; omega
  · show -((m <<< 0 : Nat) : Int) ≤ _
    rw [Nat.shiftLeft_zero]; omega

/-- Above the greatest finite number: plus infinity alone. -/
theorem above_max (a : Nat) (hn : ¬ 9218868437227405312 < a % 9223372036854775808) :
    (double.order a 9218868437227405311 == some .gt) = (decide (a % 9223372036854775808 = 9218868437227405312) && !(a / 9223372036854775808 % 2 == 1)) := by
  unfold Format.order
  rw [read_max]
  by_cases hi : a % 9223372036854775808 = 9218868437227405312
  · rw [read_inf a hi]
    cases hs : (a / 9223372036854775808 % 2 == 1) <;> simp [Datum.order, hi]
  · obtain ⟨m, p, e, hm, hp, _⟩ := read_fin a (by omega)
    rw [e]
    simp only [hi, decide_false, Bool.false_and, Datum.order]
    rw [beq_eq_false_iff_ne]
    intro hc
    injection hc with hc
    have hmin : min p 971 = p := by omega
    rw [hmin] at hc
    have e0 : (p - p).toNat = 0 := by omega
    rw [e0] at hc
    have hle : signed (a / 9223372036854775808 % 2 == 1) m 0 ≤ signed false 9007199254740991 (971 - p).toNat := by
      have h2 : (9007199254740991 : Nat) ≤ 9007199254740991 <<< (971 - p).toNat := by
        rw [Nat.shiftLeft_eq]; exact Nat.le_mul_of_pos_right _ (Nat.two_pow_pos _)
      exact signed_le _ hm h2
    simp only [compare, compareOfLessAndEq] at hc
    split at hc
    · cases hc
    · split at hc
      · cases hc
      · rename_i h1 h2; omega

/-- Zeros: just those that are 0 but for the sign. -/
theorem unlike_zero (a : Nat) (hn : ¬ 9218868437227405312 < a % 9223372036854775808) :
    (double.order a 0 != some .eq) = !decide (a % 9223372036854775808 = 0) := by
  unfold Format.order
  rw [read_zero]
  by_cases hi : a % 9223372036854775808 = 9218868437227405312
  · rw [read_inf a hi]
    have : ¬ a % 9223372036854775808 = 0 := by omega
    cases hs : (a / 9223372036854775808 % 2 == 1) <;> simp [Datum.order, this]
  · obtain ⟨m, p, e, hm, hp, hz⟩ := read_fin a (by omega)
    rw [e]
    simp only [Datum.order, signed_zero]
    by_cases h0 : a % 9223372036854775808 = 0
    · rw [hz.2 h0, signed_zero]; simp [h0, compare, compareOfLessAndEq]
    · have hm0 : m ≠ 0 := fun hh => h0 (hz.1 hh)
      have hne : signed (a / 9223372036854775808 % 2 == 1) m (p - min p (-1074)).toNat ≠ 0 := by
        exact signed_ne _ (by omega)
      simp only [h0, decide_false, Bool.not_false, bne_iff_ne, ne_eq]
      intro hc
      injection hc with hc
      simp only [compare, compareOfLessAndEq] at hc
      split at hc
      · cases hc
      · try (split at hc)
        all_goals first | (cases hc; done) | (rename_i h1 h2; exact hne h2)

/-- The kind of a number. -/
def kindF (a : Int) : Int :=
  if nanB a then 5 else if a % 9223372036854775808 = 9218868437227405312 then (if a < 9223372036854775808 then 3 else 4)
  else if a % 9223372036854775808 = 0 then (if a < 9223372036854775808 then 1 else 2) else 0

end Go.Proofs.Ytpobkbedablfeaa
