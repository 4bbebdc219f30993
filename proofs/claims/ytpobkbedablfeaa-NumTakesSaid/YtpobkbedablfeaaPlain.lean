/- The plain laws of numbers: results are in one form; sums and products may be turned round; taking away is adding with the sign turned. -/
import Derived.Test.YtpobkbedablfeaaNum
namespace Go.Proofs.Ytpobkbedablfeaa
open Go.RowKit Ieee

theorem datum_sum_comm (x y : Datum) : x.sum y = y.sum x := by
  cases x <;> cases y <;> simp only [Datum.sum]
  · rename_i s m i t n j
    have e1 : min j i = min i j := Int.min_comm _ _
    rw [e1, Int.add_comm]
    congr 2
    cases s <;> cases t <;> simp
  · rename_i s t
    by_cases h : s = t
    · subst h; rfl
    · rw [if_neg h, if_neg (fun e => h e.symm)]

theorem datum_product_comm (x y : Datum) : x.product y = y.product x := by
  cases x <;> cases y <;> simp only [Datum.product]
  · rename_i s m i t n j; rw [Nat.mul_comm, Int.add_comm, Bool.xor_comm]
  · rename_i s t; rw [Bool.xor_comm]

theorem res_add_comm (a b : Int) : res .add a b = res .add b a := by
  unfold res floatBits Format.add
  simp only []
  rw [datum_sum_comm]
theorem res_mul_comm (a b : Int) : res .mul a b = res .mul b a := by
  unfold res floatBits Format.mul
  simp only []
  rw [datum_product_comm]

theorem res_canon (o : BinOp) (a b : Int) : canon (res o a b) = res o a b := by
  unfold res
  split
  · exact canon_canon _
  · decide

theorem doF_canon (op a b : Int) : canon (doF op a b) = doF op a b := by
  unfold doF
  repeat' split
  all_goals first | exact canon_canon _ | exact res_canon _ _ _ | decide

theorem canon_pos_lt {a : Int} (h : a < 18446744073709551616) : canon a < 18446744073709551616 := canon_lt h
theorem res_bounds (o : BinOp) (a b : Int) : 0 ≤ res o a b ∧ res o a b < 18446744073709551616 := by
  unfold res
  split
  · rename_i r h
    exact ⟨canon_nonneg (by omega), canon_lt (by have := floatBits_lt h; omega)⟩
  · omega
theorem doF_bounds (op : Int) {a b : Int} (a0 : 0 ≤ a) (aA : a < 18446744073709551616) (b0 : 0 ≤ b) (bA : b < 18446744073709551616) : 0 ≤ doF op a b ∧ doF op a b < 18446744073709551616 := by
  unfold doF
  repeat' split
  all_goals first | exact ⟨canon_nonneg a0, canon_lt aA⟩ | exact ⟨canon_nonneg b0, canon_lt bA⟩ | exact res_bounds _ _ _ | omega

/-- The sign turned. -/
theorem xor_top_int (b : Int) (b0 : 0 ≤ b) (bA : b < 18446744073709551616) : bits .xor .u64 b 9223372036854775808 = ((b.toNat ^^^ 9223372036854775808 : Nat) : Int) := by
  rw [u64_xor b _ b0 bA (by omega) (by omega)]; rfl

theorem read_turned (b : Nat) (hb : b < 18446744073709551616) (hn : ¬ 9218868437227405312 < b % 9223372036854775808) : double.read (b ^^^ 9223372036854775808) = (double.read b).opposite := by
  have hx := nat_xor_top b hb
  have hm : (b ^^^ 9223372036854775808) % 9223372036854775808 = b % 9223372036854775808 := by rw [hx]; split <;> omega
  have hs : ((b ^^^ 9223372036854775808) / 9223372036854775808 % 2 == 1) = !(b / 9223372036854775808 % 2 == 1) := by
    rw [Bool.eq_iff_iff]; simp only [beq_iff_eq, Bool.not_eq_true', beq_eq_false_iff_ne]; rw [hx]; split <;> omega
  unfold Format.read
  simp only [double_sign, double_inf, double_binade, hm, hs]
  by_cases h1 : b % 9223372036854775808 < 4503599627370496
  · rw [if_pos h1, if_pos h1]; rfl
  · rw [if_neg h1, if_neg h1]
    by_cases h2 : b % 9223372036854775808 < 9218868437227405312
    · rw [if_pos h2, if_pos h2]; rfl
    · rw [if_neg h2, if_neg h2, if_pos (by omega), if_pos (by omega)]; rfl

theorem sum_nan_right (x : Datum) (s : Bool) (t : Nat) : x.sum (.nan s t) = none := by cases x <;> rfl

theorem res_sub_add (a b : Int) (b0 : 0 ≤ b) (bA : b < 18446744073709551616) : res .sub a b = res .add a ((b.toNat ^^^ 9223372036854775808 : Nat) : Int) := by
  unfold res floatBits
  simp only [Int.toNat_natCast]
  have e : FloatKind.f64.format.sub a.toNat b.toNat = FloatKind.f64.format.add a.toNat (b.toNat ^^^ 9223372036854775808) := by
    show double.sub _ _ = double.add _ _
    unfold Format.sub Format.add
    by_cases hn : 9218868437227405312 < b.toNat % 9223372036854775808
    · obtain ⟨s, t, e1⟩ := read_nan b.toNat hn
      obtain ⟨s', t', e2⟩ := read_nan (b.toNat ^^^ 9223372036854775808) (by rw [nat_xor_top _ (by omega)]; split <;> omega)
      rw [e1, e2, sum_nan_right]
      show (Datum.sum _ (.nan _ _)).map _ = _
      rw [sum_nan_right]
    · rw [read_turned _ (by omega) hn]
  rw [e]

theorem product_nan_left (x : Datum) (s : Bool) (t : Nat) : (Datum.nan s t).product x = none := by cases x <;> rfl

theorem res_mul_nan (b : Int) : res .mul 9221120237041090561 b = 9221120237041090561 := by
  refine res_none ?_
  show double.mul _ _ = none
  unfold Format.mul
  obtain ⟨s, t, e1⟩ := read_nan (9221120237041090561 : Int).toNat (by decide)
  rw [e1, product_nan_left]; rfl

theorem doF_add (a b : Int) : doF 2 a b = res .add a b := by simp [doF]
theorem doF_sub (a b : Int) : doF 3 a b = res .sub a b := by simp [doF]
theorem doF_mul (a b : Int) : doF 4 a b = res .mul a b := by simp [doF]
theorem doF_quo (a b : Int) : doF 5 a b = res .quo a b := by simp [doF]

/-- An operation on what is no number. -/
theorem doF_nan (op : Int) (h1 : 2 ≤ op) (h2 : op ≤ 5) (x : Int) : doF op 9221120237041090561 x = 9221120237041090561 ∧ doF op x 9221120237041090561 = 9221120237041090561 := by
  obtain ⟨s, t, e1⟩ := read_nan (9221120237041090561 : Int).toNat (by decide)
  have hs : ∀ d : Datum, (Datum.nan s t).sum d = none := fun d => by cases d <;> rfl
  have ho : ∀ d : Datum, d.opposite.sum (Datum.nan (!s) t) = none := fun d => by cases d <;> rfl
  have hq : ∀ (n : Nat) (d : Datum), (Datum.nan s t).quotient n d = none := fun n d => by cases d <;> rfl
  have hq' : ∀ (n : Nat) (d : Datum), d.quotient n (Datum.nan s t) = none := fun n d => by cases d <;> rfl
  have hp : ∀ d : Datum, d.product (Datum.nan s t) = none := fun d => by cases d <;> rfl
  have h : op = 2 ∨ op = 3 ∨ op = 4 ∨ op = 5 := by omega
  rcases h with rfl | rfl | rfl | rfl
  · refine ⟨?_, ?_⟩
    · rw [doF_add]
      refine res_none ?_
      show double.add _ _ = none
      unfold Format.add; rw [e1, hs]; rfl
    · rw [doF_add]
      refine res_none ?_
      show double.add _ _ = none
      unfold Format.add; rw [e1, sum_nan_right]; rfl
  · refine ⟨?_, ?_⟩
    · rw [doF_sub]
      refine res_none ?_
      show double.sub _ _ = none
      unfold Format.sub; rw [e1, hs]; rfl
    · rw [doF_sub]
      refine res_none ?_
      show double.sub _ _ = none
      unfold Format.sub; rw [e1]
      show (Datum.sum _ (.nan _ _)).map _ = _
      rw [sum_nan_right]; rfl
  · refine ⟨?_, ?_⟩
    · rw [doF_mul]
      refine res_none ?_
      show double.mul _ _ = none
      unfold Format.mul; rw [e1, product_nan_left]; rfl
    · rw [doF_mul]
      refine res_none ?_
      show double.mul _ _ = none
      unfold Format.mul; rw [e1, hp]; rfl
  · refine ⟨?_, ?_⟩
    · rw [doF_quo]
      refine res_none ?_
      show double.div _ _ = none
      unfold Format.div; rw [e1, hq]; rfl
    · rw [doF_quo]
      refine res_none ?_
      show double.div _ _ = none
      unfold Format.div; rw [e1, hq']; rfl

theorem kind_nan : kindF 9221120237041090561 = 5 := by decide
end Go.Proofs.Ytpobkbedablfeaa
