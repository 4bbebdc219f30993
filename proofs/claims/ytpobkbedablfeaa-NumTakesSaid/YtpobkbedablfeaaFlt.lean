/- Plain facts on the words of doubles: which words are no number; how such a word stands to itself. -/
import Derived.WalkKit
import Derived.WalkLawsBesides
namespace Go.Proofs.Ytpobkbedablfeaa
open Go.RowKit
/-- A fact behind a name: no rule of the walk. -/
theorem hid {p : Prop} (h : p) : Hid p := h

/-- The word of a double that is no number. -/
def nanB (a : Int) : Bool := decide (9218868437227405312 < a % 9223372036854775808)
/-- The one form. -/
def canon (a : Int) : Int := if nanB a then 9221120237041090561 else a

theorem double_sign : Ieee.double.signWeight = 9223372036854775808 := by decide
theorem double_inf : Ieee.double.infRung = 9218868437227405312 := by decide
theorem double_binade : Ieee.double.binade = 4503599627370496 := by decide

theorem read_nan (a : Nat) (h : 9218868437227405312 < a % 9223372036854775808) : ∃ s t, Ieee.double.read a = .nan s t := by
  unfold Ieee.Format.read
  simp only [double_sign, double_inf, double_binade]
  rw [if_neg (by omega), if_neg (by omega), if_neg (by omega)]
  exact ⟨_, _, rfl⟩

theorem read_num (a : Nat) (h : ¬ 9218868437227405312 < a % 9223372036854775808) : (∃ s m p, Ieee.double.read a = .number s m p) ∨ (∃ s, Ieee.double.read a = .infinity s) := by
  unfold Ieee.Format.read
  simp only [double_sign, double_inf, double_binade]
  by_cases h1 : a % 9223372036854775808 < 4503599627370496
  · rw [if_pos h1]; exact .inl ⟨_, _, _, rfl⟩
  · rw [if_neg h1]
    by_cases h2 : a % 9223372036854775808 < 9218868437227405312
    · rw [if_pos h2]; exact .inl ⟨_, _, _, rfl⟩
    · rw [if_neg h2, if_pos (by omega)]; exact .inr ⟨_, rfl⟩

theorem compare_int_self (x : Int) : compare x x = .eq := by simp [compare, compareOfLessAndEq]
theorem compare_nat_self (x : Nat) : compare x x = .eq := by simp [compare, compareOfLessAndEq]

theorem order_self (a : Int) (h0 : 0 ≤ a) : Ieee.double.order a.toNat a.toNat = if nanB a then none else some .eq := by
  unfold Ieee.Format.order nanB
  by_cases h : 9218868437227405312 < a % 9223372036854775808
  · obtain ⟨s, t, e⟩ := read_nan a.toNat (by omega)
    rw [e]; simp [h, Ieee.Datum.order]
  · rcases read_num a.toNat (by omega) with ⟨s, m, p, e⟩ | ⟨s, e⟩
    · rw [e]; simp [h, Ieee.Datum.order]
    · rw [e]; simp [h, Ieee.Datum.order]

theorem neq_self_nan (a : Int) (h0 : 0 ≤ a) (h : nanB a = true) : (FloatKind.f64.format.order a.toNat a.toNat != some .eq) = true := by
  show (Ieee.double.order _ _ != _) = _
  rw [order_self a h0, h]; rfl
theorem neq_self_num (a : Int) (h0 : 0 ≤ a) (h : nanB a = false) : (FloatKind.f64.format.order a.toNat a.toNat != some .eq) = false := by
  show (Ieee.double.order _ _ != _) = _
  rw [order_self a h0, h]; rfl

theorem canon_nan {a : Int} (h : nanB a = true) : canon a = 9221120237041090561 := by unfold canon; rw [if_pos h]
theorem canon_num {a : Int} (h : nanB a = false) : canon a = a := by unfold canon; rw [if_neg (by simp [h])]
theorem canon_nonneg {a : Int} (h : 0 ≤ a) : 0 ≤ canon a := by unfold canon; split <;> omega
theorem canon_lt {a : Int} (h : a < 18446744073709551616) : canon a < 18446744073709551616 := by unfold canon; split <;> omega
theorem nan_canon (a : Int) : nanB (canon a) = nanB a := by
  cases h : nanB a
  · rw [canon_num h, h]
  · rw [canon_nan h]; decide
theorem canon_canon (a : Int) : canon (canon a) = canon a := by
  cases h : nanB a
  · rw [canon_num h, canon_num h]
  · rw [canon_nan h]; decide


/-! ### The place in the order of all -/
def key (a : Int) : Int := if canon a < 9223372036854775808 then canon a + 9223372036854775808 else 18446744073709551615 - canon a
def lessB (a b : Int) : Bool := decide (key a < key b)

theorem or_top (a : Int) (h0 : 0 ≤ a) (h : a < 9223372036854775808) : bits .or .u64 a 9223372036854775808 = a + 9223372036854775808 := by
  rw [u64_or a _ h0 (by omega) (by omega) (by omega)]
  have := nat_join 63 9223372036854775808 a.toNat (by decide) (by omega)
  rw [Nat.or_comm]
  show ((9223372036854775808 ||| a.toNat : Nat) : Int) = _
  rw [this]; omega

theorem xor_all (a : Int) (h0 : 0 ≤ a) (h : a < 18446744073709551616) : bits .xor .u64 IntKind.u64.max a = 18446744073709551615 - a := by
  have hm : IntKind.u64.max = 18446744073709551615 := by decide
  rw [hm, u64_xor _ a (by omega) (by omega) h0 h]
  have e : (18446744073709551615 : Int).toNat = 2 ^ 64 - 1 := by decide
  rw [e]
  have : (2 ^ 64 - 1) ^^^ a.toNat = 2 ^ 64 - 1 - a.toNat := by
    have hb : a.toNat < 2 ^ 64 := by omega
    have := BitVec.toNat_not (x := BitVec.ofNat 64 a.toNat)
    have h2 : (~~~ (BitVec.ofNat 64 a.toNat)) = BitVec.allOnes 64 ^^^ (BitVec.ofNat 64 a.toNat) := by rw [BitVec.allOnes_xor]
    rw [h2, BitVec.toNat_xor, BitVec.toNat_allOnes, BitVec.toNat_ofNat, Nat.mod_eq_of_lt hb] at this
    exact this
  rw [this]; omega

/-! ### The four operations -/
/-- What an operation comes to, in the one form. -/
def res (op : BinOp) (a b : Int) : Int := match floatBits op .f64 a.toNat b.toNat with | some r => canon r | none => 9221120237041090561

theorem res_some {op : BinOp} {a b : Int} {r : Nat} (h : floatBits op .f64 a.toNat b.toNat = some r) : res op a b = canon r := by unfold res; rw [h]
theorem res_none {op : BinOp} {a b : Int} (h : floatBits op .f64 a.toNat b.toNat = none) : res op a b = 9221120237041090561 := by unfold res; rw [h]

theorem floatBits_lt {op : BinOp} {x y r : Nat} (h : floatBits op .f64 x y = some r) : r < 18446744073709551616 := by
  have := floatBits_wf h
  simpa [Lit.wf] using this

theorem run_float_none {P : Program} (w : World) (op : BinOp) (t : TypeId) (x y : Nat) (hop : op = .add ∨ op = .sub ∨ op = .mul ∨ op = .quo) (h : floatBits op .f64 x y = none) :
    ∃ b : Nat, (binOp op t (.float .f64 x) (.float .f64 y)).run P w = .ok (.float .f64 b) w.drew ∧ nanB b = true ∧ b < 18446744073709551616 := by
  refine ⟨(Question.nanBits .f64 x y).cut (w.tape w.drawn (.nanBits .f64 x y)), ?_, ?_, ?_⟩
  · unfold floatBits at h
    rcases hop with rfl | rfl | rfl | rfl <;> simp only at h <;> simp [binOp, Op.floatArith, h, choose, Sem.run, Question.forced]
  · unfold Question.cut nanB
    simp only [decide_eq_true_eq]
    have : ∀ t : Nat, (9218868437227405312 : Int) < (((t % 2) * 2 ^ 63 + 0x7ff0000000000000 + 1 + (t / 2) % (2 ^ 52 - 1) : Nat) : Int) % 9223372036854775808 := fun t => by
      have e1 : (2 : Nat) ^ 63 = 9223372036854775808 := by decide
      have e2 : (2 : Nat) ^ 52 - 1 = 4503599627370495 := by decide
      rw [e1, e2]
      have hv : t / 2 % 4503599627370495 < 4503599627370495 := Nat.mod_lt _ (by omega)
      generalize t / 2 % 4503599627370495 = v at hv ⊢
      rcases (show t % 2 = 0 ∨ t % 2 = 1 by omega) with hu | hu <;> rw [hu] <;> omega
    exact this _
  · unfold Question.cut
    have : ∀ t : Nat, ((t % 2) * 2 ^ 63 + 0x7ff0000000000000 + 1 + (t / 2) % (2 ^ 52 - 1)) < 18446744073709551616 := fun t => by
      have e1 : (2 : Nat) ^ 63 = 9223372036854775808 := by decide
      have e2 : (2 : Nat) ^ 52 - 1 = 4503599627370495 := by decide
      rw [e1, e2]
      have hv : t / 2 % 4503599627370495 < 4503599627370495 := Nat.mod_lt _ (by omega)
      generalize t / 2 % 4503599627370495 = v at hv ⊢
      rcases (show t % 2 = 0 ∨ t % 2 = 1 by omega) with hu | hu <;> rw [hu] <;> omega
    exact this _

end Go.Proofs.Ytpobkbedablfeaa
