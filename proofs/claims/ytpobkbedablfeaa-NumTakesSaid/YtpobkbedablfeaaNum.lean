/- What the functions of num and of its reference come to. -/
import Derived.Test.YtpobkbedablfeaaProg
import Derived.Test.YtpobkbedablfeaaFlk
namespace Go.Proofs.Ytpobkbedablfeaa
open Go.RowKit

theorem frombits (a : Int) (w : World) : (callFunc 36 #[.int .u64 a]).run Try.prog w = .ok (.value (.float .f64 a.toNat)) w := by
  rw [run_callFunc_extern Try.func36 (by kernel_rfl) rfl (by kernel_rfl) (e := Extern.MathFloatBits.float64frombits) (by kernel_rfl)]
  rfl
theorem tobits (b : Nat) (w : World) : (callFunc 39 #[.float .f64 b]).run Try.prog w = .ok (.value (.int .u64 b)) w := by
  rw [run_callFunc_extern Try.func39 (by kernel_rfl) rfl (by kernel_rfl) (e := Extern.MathFloatBits.float64bits) (by kernel_rfl)]
  rfl

set_option maxHeartbeats 400000 in
theorem canon20 (a : Int) (w : World) (h0 : 0 ≤ a) : Calls Try.prog 20 #[.int .u64 a] w fun e w' => e = .returned (.int .u64 (canon a)) ∧ w = w' := by
  have hf := frombits
  cases h : nanB a
  · have hn := neq_self_num a h0 h
    rw [canon_num h]
    clear h
    go_enter Try.func20, Try.ntmps20
    go_wp2
    go_ret
    exact ⟨rfl, rfl⟩
  · have hn := neq_self_nan a h0 h
    rw [canon_nan h]
    clear h
    go_enter Try.func20, Try.ntmps20
    go_wp2
    go_ret
    exact ⟨rfl, rfl⟩

theorem wrap_u64_in {n : Int} (h0 : 0 ≤ n) (h : n < 18446744073709551616) : IntKind.u64.wrap n = n := by rw [IntKind.wrap_u64]; omega

set_option maxHeartbeats 400000 in
theorem parts42 (a : Int) (w : World) (h0 : 0 ≤ a) (hA : a < 18446744073709551616) : Calls Try.prog 42 #[.int .u64 a] w fun e w' => e = .returned (.tuple #[.int .u64 (a / 9223372036854775808), .int .u64 (a / 4503599627370496 % 2048), .int .u64 (a % 4503599627370496)]) ∧ w = w' := by
  have e1 : bits .and .u64 (a / 4503599627370496) 2047 = a / 4503599627370496 % 2048 := by
    rw [u64_and _ _ (by omega) (by omega) (by omega) (by omega)]
    show ((_ &&& 2047 : Nat) : Int) = _
    rw [nat_mask11]; omega
  have e2 : bits .and .u64 a 4503599627370495 = a % 4503599627370496 := by
    rw [u64_and _ _ (by omega) (by omega) (by omega) (by omega)]
    have : a.toNat &&& (2 ^ 52 - 1) = a.toNat % 2 ^ 52 := Nat.and_two_pow_sub_one_eq_mod _ 52
    show ((a.toNat &&& (2 ^ 52 - 1) : Nat) : Int) = _
    rw [this]; omega
  clear h0 hA
  go_enter Try.func42, Try.ntmps42
  go_wp2
  go_ret3
  exact ⟨rfl, rfl⟩

theorem parts_nan (a : Int) (_h0 : 0 ≤ a) (_hA : a < 18446744073709551616) : nanB a = ((a / 4503599627370496 % 2048 == 2047) && (a % 4503599627370496 != 0)) := by
  unfold nanB
  rw [Bool.eq_iff_iff]
  simp only [decide_eq_true_eq, Bool.and_eq_true, beq_iff_eq, bne_iff_ne, ne_eq]
  omega

set_option maxHeartbeats 400000 in
theorem canon34 (a : Int) (w : World) (h0 : 0 ≤ a) (hA : a < 18446744073709551616) : Calls Try.prog 34 #[.int .u64 a] w fun e w' => e = .returned (.int .u64 (canon a)) ∧ w = w' := by
  have hn := parts_nan a h0 hA
  by_cases hx : (a / 4503599627370496 % 2048 == 2047) = true
  · by_cases hy : (a % 4503599627370496 != 0) = true
    · rw [hx, hy] at hn
      have Hc := hid (canon_nan hn)
      clear hn
      go_enter Try.func34, Try.ntmps34
      go_wp2_with (go_at_call 42; refine (parts42 _ _ h0 hA).mono ?_; rintro e w' ⟨rfl, rfl⟩)
      go_ret
      exact ⟨by rw [Hc.out]; rfl, rfl⟩
    · have hy' : (a % 4503599627370496 != 0) = false := by simpa using hy
      rw [hx, hy'] at hn
      have Hc := hid (canon_num hn)
      clear hn hy
      go_enter Try.func34, Try.ntmps34
      go_wp2_with (go_at_call 42; refine (parts42 _ _ h0 hA).mono ?_; rintro e w' ⟨rfl, rfl⟩)
      go_ret
      exact ⟨by rw [Hc.out]; rfl, rfl⟩
  · have hx' : (a / 4503599627370496 % 2048 == 2047) = false := by simpa using hx
    rw [hx'] at hn
    have Hc := hid (canon_num (by simpa using hn))
    clear hn hx
    go_enter Try.func34, Try.ntmps34
    go_wp2_with (go_at_call 42; refine (parts42 _ _ h0 hA).mono ?_; rintro e w' ⟨rfl, rfl⟩)
    go_ret
    exact ⟨by rw [Hc.out]; rfl, rfl⟩

theorem ret_u64 {a b : Int} (h : a = b) : Ending.returned (.int .u64 a) = Ending.returned (.int .u64 b) := by rw [h]

set_option maxHeartbeats 400000 in
theorem key17 (a : Int) (w : World) (h0 : 0 ≤ a) (hA : a < 18446744073709551616) : Calls Try.prog 17 #[.int .u64 a] w fun e w' => e = .returned (.int .u64 (key a)) ∧ w = w' := by
  have H0 := canon_nonneg h0
  have H1 := canon_lt hA
  by_cases h : canon a < 9223372036854775808
  · have Hk : Hid (key a = canon a + 9223372036854775808) := by show key a = _; unfold key; rw [if_pos h]
    have Hb := hid (or_top (canon a) H0 h)
    have ht : (canon a / 9223372036854775808 == 1) = false := by rw [beq_eq_false_iff_ne]; omega
    go_enter Try.func17, Try.ntmps17
    go_wp2_with (go_at_call 20; refine (canon20 _ _ h0).mono ?_; rintro e w' ⟨rfl, rfl⟩)
    go_ret
    exact ⟨ret_u64 (by rw [Hk.out]; exact Hb.out), rfl⟩
  · have Hk : Hid (key a = 18446744073709551615 - canon a) := by show key a = _; unfold key; rw [if_neg h]
    have Hb := hid (xor_all (canon a) H0 H1)
    have ht : (canon a / 9223372036854775808 == 1) = true := by rw [beq_iff_eq]; omega
    go_enter Try.func17, Try.ntmps17
    go_wp2_with (go_at_call 20; refine (canon20 _ _ h0).mono ?_; rintro e w' ⟨rfl, rfl⟩)
    go_ret
    exact ⟨ret_u64 (by rw [Hk.out]; exact Hb.out), rfl⟩

set_option maxHeartbeats 400000 in
theorem key18 (a : Int) (w : World) (h0 : 0 ≤ a) (hA : a < 18446744073709551616) : Calls Try.prog 18 #[.int .u64 a] w fun e w' => e = .returned (.int .u64 (key a)) ∧ w = w' := by
  have H0 := canon_nonneg h0
  have H1 := canon_lt hA
  by_cases h : canon a < 9223372036854775808
  · have Hk : Hid (key a = canon a + 9223372036854775808) := by show key a = _; unfold key; rw [if_pos h]
    have Hb := hid (wrap_u64_in (n := canon a + 9223372036854775808) (by omega) (by omega))
    go_enter Try.func18, Try.ntmps18
    go_wp2_with (go_at_call 34; refine (canon34 _ _ h0 hA).mono ?_; rintro e w' ⟨rfl, rfl⟩)
    go_ret
    exact ⟨ret_u64 (by rw [Hk.out]), rfl⟩
  · have Hk : Hid (key a = 18446744073709551615 - canon a) := by show key a = _; unfold key; rw [if_neg h]
    have Hb := hid (wrap_u64_in (n := 18446744073709551615 - canon a) (by omega) (by omega))
    go_enter Try.func18, Try.ntmps18
    go_wp2_with (go_at_call 34; refine (canon34 _ _ h0 hA).mono ?_; rintro e w' ⟨rfl, rfl⟩)
    go_ret
    exact ⟨ret_u64 (by rw [Hk.out]), rfl⟩

set_option maxHeartbeats 400000 in
theorem less16 (a b : Int) (w : World) (a0 : 0 ≤ a) (aA : a < 18446744073709551616) (b0 : 0 ≤ b) (bA : b < 18446744073709551616) : Calls Try.prog 16 #[.int .u64 a, .int .u64 b] w fun e w' => e = .returned (.bool (lessB a b)) ∧ w = w' := by
  go_enter Try.func16, Try.ntmps16
  go_wp2_with fail
  refine (key17 _ _ a0 aA).mono ?_; rintro e w' ⟨rfl, rfl⟩
  go_wp2_with fail
  refine (key17 _ _ b0 bA).mono ?_; rintro e w' ⟨rfl, rfl⟩
  go_wp2_with fail
  go_ret
  exact ⟨rfl, rfl⟩

set_option maxHeartbeats 400000 in
theorem less19 (a b : Int) (w : World) (a0 : 0 ≤ a) (aA : a < 18446744073709551616) (b0 : 0 ≤ b) (bA : b < 18446744073709551616) : Calls Try.prog 19 #[.int .u64 a, .int .u64 b] w fun e w' => e = .returned (.bool (lessB a b)) ∧ w = w' := by
  go_enter Try.func19, Try.ntmps19
  go_wp2_with fail
  refine (key18 _ _ a0 aA).mono ?_; rintro e w' ⟨rfl, rfl⟩
  go_wp2_with fail
  refine (key18 _ _ b0 bA).mono ?_; rintro e w' ⟨rfl, rfl⟩
  go_wp2_with fail
  go_ret
  exact ⟨rfl, rfl⟩


/-- What an operation answers. -/
def doF (op a b : Int) : Int :=
  if op = 1 then canon b else if op = 2 then res .add a b else if op = 3 then res .sub a b else if op = 4 then res .mul a b else if op = 5 then res .quo a b
  else if op = 6 then (if lessB a b then 4607182418800017408 else 0) else canon a

theorem canon_small (h : nanB 0 = false) : canon 0 = 0 := canon_num h

set_option maxHeartbeats 400000 in
theorem do31a (o : BinOp) (op a b : Int) (w : World) (ho : (op = 2 ∧ o = .add) ∨ (op = 3 ∧ o = .sub) ∨ (op = 4 ∧ o = .mul) ∨ (op = 5 ∧ o = .quo)) :
    Calls Try.prog 31 #[.int .i64 op, .int .u64 a, .int .u64 b] w fun e w' => e = .returned (.int .u64 (res o a b)) ∧ ∃ n, w.drewN n = w' := by
  have hf := frombits
  have hb := tobits
  cases hr : floatBits o .f64 a.toNat b.toNat with
  | some r =>
    have HR := hid (res_some hr)
    have hrun := fun w t => run_float_arith (P := Try.prog) w o t .f64 _ _ r hr
    clear hr
    rcases ho with ⟨rfl, rfl⟩ | ⟨rfl, rfl⟩ | ⟨rfl, rfl⟩ | ⟨rfl, rfl⟩
    all_goals
      go_enter Try.func31, Try.ntmps31
      go_wp2_with (go_at_call 20; refine (canon20 _ _ (by omega)).mono ?_; rintro e w' ⟨rfl, rfl⟩)
      go_ret
      exact ⟨ret_u64 (by rw [HR.out]), 0, rfl⟩
  | none =>
    have HR := hid (res_none hr)
    have hop : o = .add ∨ o = .sub ∨ o = .mul ∨ o = .quo := by rcases ho with ⟨_, h⟩ | ⟨_, h⟩ | ⟨_, h⟩ | ⟨_, h⟩ <;> simp [h]
    obtain ⟨r, hrun0, hn, hlt⟩ := run_float_none (P := Try.prog) w o 45 _ _ hop hr
    have HN := hid (canon_nan hn)
    have hrun := hrun0
    clear hr hop hn
    rcases ho with ⟨rfl, rfl⟩ | ⟨rfl, rfl⟩ | ⟨rfl, rfl⟩ | ⟨rfl, rfl⟩
    all_goals
      go_enter Try.func31, Try.ntmps31
      go_wp2_with (go_at_call 20; refine (canon20 _ _ (by omega)).mono ?_; rintro e w' ⟨rfl, rfl⟩)
      go_ret
      exact ⟨ret_u64 (by rw [HR.out]; exact HN.out), 1, rfl⟩


set_option maxHeartbeats 400000 in
theorem do31 (op a b : Int) (w : World) (a0 : 0 ≤ a) (aA : a < 18446744073709551616) (b0 : 0 ≤ b) (bA : b < 18446744073709551616) :
    Calls Try.prog 31 #[.int .i64 op, .int .u64 a, .int .u64 b] w fun e w' => e = .returned (.int .u64 (doF op a b)) ∧ ∃ n, w.drewN n = w' := by
  have hf := frombits
  have hb := tobits
  by_cases h1 : op = 1
  · subst h1
    have HD : Hid (doF 1 a b = canon b) := by show doF 1 a b = _; simp [doF]
    go_enter Try.func31, Try.ntmps31
    go_wp2_with (go_at_call 20; refine (canon20 _ _ (by omega)).mono ?_; rintro e w' ⟨rfl, rfl⟩)
    go_ret
    exact ⟨ret_u64 (by rw [HD.out]), 0, rfl⟩
  by_cases h2 : op = 2
  · have HD : doF op a b = res .add a b := by subst h2; simp [doF]
    rw [HD]; exact do31a _ _ _ _ _ (by simp [h2])
  by_cases h3 : op = 3
  · have HD : doF op a b = res .sub a b := by subst h3; simp [doF]
    rw [HD]; exact do31a _ _ _ _ _ (by simp [h3])
  by_cases h4 : op = 4
  · have HD : doF op a b = res .mul a b := by subst h4; simp [doF]
    rw [HD]; exact do31a _ _ _ _ _ (by simp [h4])
  by_cases h5 : op = 5
  · have HD : doF op a b = res .quo a b := by subst h5; simp [doF]
    rw [HD]; exact do31a _ _ _ _ _ (by simp [h5])
  by_cases h6 : op = 6
  · subst h6
    clear h1 h2 h3 h4 h5
    cases hl : lessB a b
    · have HD : Hid (doF 6 a b = canon 0) := by show doF 6 a b = _; simp [doF, hl, canon_small (by decide)]
      go_enter Try.func31, Try.ntmps31
      go_wp2_with (first | (go_at_call 20; refine (canon20 _ _ (by omega)).mono ?_; rintro e w' ⟨rfl, rfl⟩) | (go_at_call 16; refine (less16 _ _ _ a0 aA b0 bA).mono ?_; rintro e w' ⟨rfl, rfl⟩))
      go_ret
      exact ⟨ret_u64 (by rw [HD.out]), 0, rfl⟩
    · have HD : Hid (doF 6 a b = canon 4607182418800017408) := by show doF 6 a b = _; rw [canon_num (by decide)]; simp [doF, hl]
      go_enter Try.func31, Try.ntmps31
      go_wp2_with (first | (go_at_call 20; refine (canon20 _ _ (by omega)).mono ?_; rintro e w' ⟨rfl, rfl⟩) | (go_at_call 16; refine (less16 _ _ _ a0 aA b0 bA).mono ?_; rintro e w' ⟨rfl, rfl⟩))
      go_ret
      exact ⟨ret_u64 (by rw [HD.out]), 0, rfl⟩
  · have HD : Hid (doF op a b = canon a) := by show doF op a b = _; simp [doF, h1, h2, h3, h4, h5, h6]
    have e1 : (op == 1) = false := by rw [beq_eq_false_iff_ne]; exact h1
    have e2 : (op == 2) = false := by rw [beq_eq_false_iff_ne]; exact h2
    have e3 : (op == 3) = false := by rw [beq_eq_false_iff_ne]; exact h3
    have e4 : (op == 4) = false := by rw [beq_eq_false_iff_ne]; exact h4
    have e5 : (op == 5) = false := by rw [beq_eq_false_iff_ne]; exact h5
    have e6 : (op == 6) = false := by rw [beq_eq_false_iff_ne]; exact h6
    clear h1 h2 h3 h4 h5 h6
    go_enter Try.func31, Try.ntmps31
    go_wp2_with (go_at_call 20; refine (canon20 _ _ (by omega)).mono ?_; rintro e w' ⟨rfl, rfl⟩)
    go_ret
    exact ⟨ret_u64 (by rw [HD.out]), 0, rfl⟩

set_option maxHeartbeats 400000 in
theorem do32a (o : BinOp) (op a b : Int) (w : World) (ho : (op = 2 ∧ o = .add) ∨ (op = 3 ∧ o = .sub) ∨ (op = 4 ∧ o = .mul) ∨ (op = 5 ∧ o = .quo)) :
    Calls Try.prog 32 #[.int .i64 op, .int .u64 a, .int .u64 b] w fun e w' => e = .returned (.int .u64 (res o a b)) ∧ ∃ n, w.drewN n = w' := by
  have hf := frombits
  have hb := tobits
  cases hr : floatBits o .f64 a.toNat b.toNat with
  | some r =>
    have HR := hid (res_some hr)
    have hrun := fun w t => run_float_arith (P := Try.prog) w o t .f64 _ _ r hr
    have hlt := floatBits_lt hr
    clear hr
    rcases ho with ⟨rfl, rfl⟩ | ⟨rfl, rfl⟩ | ⟨rfl, rfl⟩ | ⟨rfl, rfl⟩
    all_goals
      go_enter Try.func32, Try.ntmps32
      go_wp2_with (go_at_call 34; refine (canon34 _ _ (by omega) (by omega)).mono ?_; rintro e w' ⟨rfl, rfl⟩)
      go_ret
      exact ⟨ret_u64 (by rw [HR.out]), 0, rfl⟩
  | none =>
    have HR := hid (res_none hr)
    have hop : o = .add ∨ o = .sub ∨ o = .mul ∨ o = .quo := by rcases ho with ⟨_, h⟩ | ⟨_, h⟩ | ⟨_, h⟩ | ⟨_, h⟩ <;> simp [h]
    obtain ⟨r, hrun0, hn, hlt⟩ := run_float_none (P := Try.prog) w o 45 _ _ hop hr
    have HN := hid (canon_nan hn)
    have hrun := hrun0
    clear hr hop hn
    rcases ho with ⟨rfl, rfl⟩ | ⟨rfl, rfl⟩ | ⟨rfl, rfl⟩ | ⟨rfl, rfl⟩
    all_goals
      go_enter Try.func32, Try.ntmps32
      go_wp2_with (go_at_call 34; refine (canon34 _ _ (by omega) (by omega)).mono ?_; rintro e w' ⟨rfl, rfl⟩)
      go_ret
      exact ⟨ret_u64 (by rw [HR.out]; exact HN.out), 1, rfl⟩


set_option maxHeartbeats 400000 in
theorem do32 (op a b : Int) (w : World) (a0 : 0 ≤ a) (aA : a < 18446744073709551616) (b0 : 0 ≤ b) (bA : b < 18446744073709551616) :
    Calls Try.prog 32 #[.int .i64 op, .int .u64 a, .int .u64 b] w fun e w' => e = .returned (.int .u64 (doF op a b)) ∧ ∃ n, w.drewN n = w' := by
  have hf := frombits
  have hb := tobits
  by_cases h1 : op = 1
  · subst h1
    have HD : Hid (doF 1 a b = canon b) := by show doF 1 a b = _; simp [doF]
    go_enter Try.func32, Try.ntmps32
    go_wp2_with (go_at_call 34; refine (canon34 _ _ (by omega) (by omega)).mono ?_; rintro e w' ⟨rfl, rfl⟩)
    go_ret
    exact ⟨ret_u64 (by rw [HD.out]), 0, rfl⟩
  by_cases h2 : op = 2
  · have HD : doF op a b = res .add a b := by subst h2; simp [doF]
    rw [HD]; exact do32a _ _ _ _ _ (by simp [h2])
  by_cases h3 : op = 3
  · have HD : doF op a b = res .sub a b := by subst h3; simp [doF]
    rw [HD]; exact do32a _ _ _ _ _ (by simp [h3])
  by_cases h4 : op = 4
  · have HD : doF op a b = res .mul a b := by subst h4; simp [doF]
    rw [HD]; exact do32a _ _ _ _ _ (by simp [h4])
  by_cases h5 : op = 5
  · have HD : doF op a b = res .quo a b := by subst h5; simp [doF]
    rw [HD]; exact do32a _ _ _ _ _ (by simp [h5])
  by_cases h6 : op = 6
  · subst h6
    clear h1 h2 h3 h4 h5
    cases hl : lessB a b
    · have HD : Hid (doF 6 a b = canon 0) := by show doF 6 a b = _; simp [doF, hl, canon_small (by decide)]
      go_enter Try.func32, Try.ntmps32
      go_wp2_with (first | (go_at_call 34; refine (canon34 _ _ (by omega) (by omega)).mono ?_; rintro e w' ⟨rfl, rfl⟩) | (go_at_call 19; refine (less19 _ _ _ a0 aA b0 bA).mono ?_; rintro e w' ⟨rfl, rfl⟩))
      go_ret
      exact ⟨ret_u64 (by rw [HD.out, canon_num (by decide)]), 0, rfl⟩
    · have HD : Hid (doF 6 a b = canon 4607182418800017408) := by show doF 6 a b = _; rw [canon_num (by decide)]; simp [doF, hl]
      go_enter Try.func32, Try.ntmps32
      go_wp2_with (first | (go_at_call 34; refine (canon34 _ _ (by omega) (by omega)).mono ?_; rintro e w' ⟨rfl, rfl⟩) | (go_at_call 19; refine (less19 _ _ _ a0 aA b0 bA).mono ?_; rintro e w' ⟨rfl, rfl⟩))
      go_ret
      exact ⟨ret_u64 (by rw [HD.out, canon_num (by decide)]), 0, rfl⟩
  · have HD : Hid (doF op a b = canon a) := by show doF op a b = _; simp [doF, h1, h2, h3, h4, h5, h6]
    have e1 : (op == 1) = false := by rw [beq_eq_false_iff_ne]; exact h1
    have e2 : (op == 2) = false := by rw [beq_eq_false_iff_ne]; exact h2
    have e3 : (op == 3) = false := by rw [beq_eq_false_iff_ne]; exact h3
    have e4 : (op == 4) = false := by rw [beq_eq_false_iff_ne]; exact h4
    have e5 : (op == 5) = false := by rw [beq_eq_false_iff_ne]; exact h5
    have e6 : (op == 6) = false := by rw [beq_eq_false_iff_ne]; exact h6
    clear h1 h2 h3 h4 h5 h6
    go_enter Try.func32, Try.ntmps32
    go_wp2_with (go_at_call 34; refine (canon34 _ _ (by omega) (by omega)).mono ?_; rintro e w' ⟨rfl, rfl⟩)
    go_ret
    exact ⟨ret_u64 (by rw [HD.out]), 0, rfl⟩

theorem run_neg_f64 (b : Nat) (w : World) : (Op.unary .neg (.float .f64 b)).run Try.prog w = .ok (.float .f64 (b ^^^ 9223372036854775808)) w := rfl
set_option maxHeartbeats 400000 in
theorem inf40p (b : Nat) (w : World) : Calls Try.prog 40 #[.float .f64 b, .int .i64 1] w fun e w' => e = .returned (.bool (Ieee.double.order b 9218868437227405311 == some .gt)) ∧ w = w' := by
  go_enter Try.func40, Try.ntmps40
  go_wp2
  go_ret
  exact ⟨rfl, rfl⟩
set_option maxHeartbeats 400000 in
theorem inf40n (b : Nat) (w : World) : Calls Try.prog 40 #[.float .f64 b, .int .i64 (-1)] w fun e w' => e = .returned (.bool (Ieee.double.order (b ^^^ 9223372036854775808) 9218868437227405311 == some .gt)) ∧ w = w' := by
  have hn := run_neg_f64
  go_enter Try.func40, Try.ntmps40
  go_wp2
  go_ret
  exact ⟨rfl, rfl⟩
set_option maxHeartbeats 400000 in
theorem sign41 (b : Nat) (w : World) (h : b < 18446744073709551616) : Calls Try.prog 41 #[.float .f64 b] w fun e w' => e = .returned (.bool (decide (9223372036854775808 ≤ b))) ∧ w = w' := by
  have hb := tobits
  have he : Hid (decide (wrap64 (b : Int) < 0) = decide (9223372036854775808 ≤ b)) := by
    show _ = _
    rw [decide_eq_decide]; unfold wrap64; omega
  clear h
  go_enter Try.func41, Try.ntmps41
  go_wp2
  go_ret
  exact ⟨by rw [← he.out]; rfl, rfl⟩

theorem kind_facts (a : Int) (h0 : 0 ≤ a) (hA : a < 18446744073709551616) :
    (nanB a = true ∧ (FloatKind.f64.format.order a.toNat a.toNat != some .eq) = true ∧ kindF a = 5) ∨
    ((FloatKind.f64.format.order a.toNat a.toNat != some .eq) = false ∧
      ((Ieee.double.order a.toNat 9218868437227405311 == some .gt) = true ∧ kindF a = 3 ∨
       (Ieee.double.order a.toNat 9218868437227405311 == some .gt) = false ∧
        ((Ieee.double.order (a.toNat ^^^ 9223372036854775808) 9218868437227405311 == some .gt) = true ∧ kindF a = 4 ∨
         (Ieee.double.order (a.toNat ^^^ 9223372036854775808) 9218868437227405311 == some .gt) = false ∧
          ((FloatKind.f64.format.order a.toNat 0 != some .eq) = true ∧ kindF a = 0 ∨
           (FloatKind.f64.format.order a.toNat 0 != some .eq) = false ∧
            (decide (9223372036854775808 ≤ a.toNat) = true ∧ kindF a = 2 ∨ decide (9223372036854775808 ≤ a.toNat) = false ∧ kindF a = 1))))) := by
  cases hn : nanB a
  · have hn' : ¬ 9218868437227405312 < a.toNat % 9223372036854775808 := by
      unfold nanB at hn; simp only [decide_eq_false_iff_not] at hn; omega
    refine .inr ⟨neq_self_num a h0 hn, ?_⟩
    have hx := nat_xor_top a.toNat (by omega)
    have hxn : ¬ 9218868437227405312 < (a.toNat ^^^ 9223372036854775808) % 9223372036854775808 := by rw [hx]; split <;> omega
    rw [above_max _ hn', above_max _ hxn]
    show _ ∨ _ ∧ (_ ∨ _ ∧ ((Ieee.double.order a.toNat 0 != some .eq) = true ∧ _ ∨ (Ieee.double.order a.toNat 0 != some .eq) = false ∧ _))
    rw [unlike_zero _ hn', hx]
    by_cases hi : a % 9223372036854775808 = 9218868437227405312
    · by_cases hs : a < 9223372036854775808
      · refine .inl ⟨?_, ?_⟩
        · simp only [Bool.and_eq_true, decide_eq_true_eq, Bool.not_eq_true', beq_eq_false_iff_ne]; omega
        · unfold kindF; rw [hn]; simp [hi, hs]
      · refine .inr ⟨?_, .inl ⟨?_, ?_⟩⟩
        · have : (a.toNat / 9223372036854775808 % 2 == 1) = true := by rw [beq_iff_eq]; omega
          rw [this]; simp
        · rw [if_neg (by omega)]
          simp only [Bool.and_eq_true, decide_eq_true_eq, Bool.not_eq_true', beq_eq_false_iff_ne]; omega
        · unfold kindF; rw [hn]; simp [hi, hs]
    · have e1 : decide (a.toNat % 9223372036854775808 = 9218868437227405312) = false := by simp only [decide_eq_false_iff_not]; omega
      have e2 : decide ((if a.toNat < 9223372036854775808 then a.toNat + 9223372036854775808 else a.toNat - 9223372036854775808) % 9223372036854775808 = 9218868437227405312) = false := by
        simp only [decide_eq_false_iff_not]; split <;> omega
      rw [e1, e2]
      refine .inr ⟨rfl, .inr ⟨rfl, ?_⟩⟩
      by_cases hz : a % 9223372036854775808 = 0
      · have e3 : decide (a.toNat % 9223372036854775808 = 0) = true := by simp only [decide_eq_true_eq]; omega
        rw [e3]
        refine .inr ⟨rfl, ?_⟩
        by_cases hs : a < 9223372036854775808
        · refine .inr ⟨by simp only [decide_eq_false_iff_not]; omega, ?_⟩
          unfold kindF; rw [hn]; simp [hz, hs]
        · refine .inl ⟨by simp only [decide_eq_true_eq]; omega, ?_⟩
          unfold kindF; rw [hn]; simp [hz, hs]
      · have e3 : decide (a.toNat % 9223372036854775808 = 0) = false := by simp only [decide_eq_false_iff_not]; omega
        rw [e3]
        exact .inl ⟨rfl, by unfold kindF; rw [hn]; simp [hi, hz]⟩
  · exact .inl ⟨rfl, neq_self_nan a h0 hn, by unfold kindF; rw [hn]; rfl⟩


def infB (b : Nat) (s : Int) : Bool := if s = 1 then Ieee.double.order b 9218868437227405311 == some .gt else Ieee.double.order (b ^^^ 9223372036854775808) 9218868437227405311 == some .gt
theorem inf40 (b : Nat) (s : Int) (w : World) (hs : s = 1 ∨ s = -1) : Calls Try.prog 40 #[.float .f64 b, .int .i64 s] w fun e w' => e = .returned (.bool (infB b s)) ∧ w = w' := by
  rcases hs with rfl | rfl
  · exact inf40p b w
  · exact inf40n b w
theorem ret_i64 {a b : Int} (h : a = b) : Ending.returned (.int .i64 a) = Ending.returned (.int .i64 b) := by rw [h]

set_option maxHeartbeats 1000000 in
theorem kind33 (a : Int) (w : World) (h0 : 0 ≤ a) (hA : a < 18446744073709551616) : Calls Try.prog 33 #[.int .u64 a] w fun e w' => e = .returned (.int .i64 (kindF a)) ∧ w = w' := by
  have hb := tobits
  have hf := frombits
  have hlt : a.toNat < 18446744073709551616 := by omega
  have ks := kind_facts a h0 hA
  clear h0 hA
  rw [show (Ieee.double.order a.toNat 9218868437227405311 == some .gt) = infB a.toNat 1 from rfl, show (Ieee.double.order (a.toNat ^^^ 9223372036854775808) 9218868437227405311 == some .gt) = infB a.toNat (-1) from rfl] at ks
  rcases ks with ⟨_, c1, hk⟩ | ⟨c1, ⟨c2, hk⟩ | ⟨c2, ⟨c3, hk⟩ | ⟨c3, ⟨c4, hk⟩ | ⟨c4, ⟨c5, hk⟩ | ⟨c5, hk⟩⟩⟩⟩⟩
  all_goals
    have HK := hid hk
    clear hk
    go_enter Try.func33, Try.ntmps33
    go_wp2_with (first
      | (go_at_call 40; refine (inf40 _ _ _ (by decide)).mono ?_; rintro e w' ⟨rfl, rfl⟩)
      | (go_at_call 41; refine (sign41 _ _ hlt).mono ?_; rintro e w' ⟨rfl, rfl⟩))
    go_ret
    exact ⟨ret_i64 (by rw [HK.out]), rfl⟩

theorem kind_parts (a : Int) (h0 : 0 ≤ a) (hA : a < 18446744073709551616) :
    (a / 4503599627370496 % 2048 == 2047) = true ∧ (a % 4503599627370496 != 0) = true ∧ kindF a = 5 ∨
    (a / 4503599627370496 % 2048 == 2047) = true ∧ (a % 4503599627370496 != 0) = false ∧ a / 9223372036854775808 = 0 ∧ kindF a = 3 ∨
    (a / 4503599627370496 % 2048 == 2047) = true ∧ (a % 4503599627370496 != 0) = false ∧ a / 9223372036854775808 = 1 ∧ kindF a = 4 ∨
    (a / 4503599627370496 % 2048 == 2047) = false ∧ (a / 4503599627370496 % 2048 == 0) = false ∧ kindF a = 0 ∨
    (a / 4503599627370496 % 2048 == 2047) = false ∧ (a / 4503599627370496 % 2048 == 0) = true ∧ (a % 4503599627370496 == 0) = false ∧ kindF a = 0 ∨
    (a / 4503599627370496 % 2048 == 2047) = false ∧ (a / 4503599627370496 % 2048 == 0) = true ∧ (a % 4503599627370496 == 0) = true ∧ a / 9223372036854775808 = 0 ∧ kindF a = 1 ∨
    (a / 4503599627370496 % 2048 == 2047) = false ∧ (a / 4503599627370496 % 2048 == 0) = true ∧ (a % 4503599627370496 == 0) = true ∧ a / 9223372036854775808 = 1 ∧ kindF a = 2 := by
  unfold kindF nanB
  simp only [beq_iff_eq, beq_eq_false_iff_ne, bne_iff_ne, ne_eq, decide_eq_true_eq, bne_eq_false_iff_eq]
  by_cases hn : 9218868437227405312 < a % 9223372036854775808
  · left; rw [if_pos hn]; omega
  · right; rw [if_neg hn]
    by_cases hi : a % 9223372036854775808 = 9218868437227405312
    · rw [if_pos hi]
      by_cases hs : a < 9223372036854775808
      · left; rw [if_pos hs]; omega
      · right; left; rw [if_neg hs]; omega
    · rw [if_neg hi]
      right; right
      by_cases hz : a % 9223372036854775808 = 0
      · rw [if_pos hz]; right; right
        by_cases hs : a < 9223372036854775808
        · left; rw [if_pos hs]; omega
        · right; rw [if_neg hs]; omega
      · rw [if_neg hz]; omega

set_option maxHeartbeats 1000000 in
theorem kind35 (a : Int) (w : World) (h0 : 0 ≤ a) (hA : a < 18446744073709551616) : Calls Try.prog 35 #[.int .u64 a] w fun e w' => e = .returned (.int .i64 (kindF a)) ∧ w = w' := by
  have HC := hid (parts42 a w h0 hA)
  have ks := kind_parts a h0 hA
  clear h0 hA
  rcases ks with ⟨c1, c2, hk⟩ | ⟨c1, c2, c3, hk⟩ | ⟨c1, c2, c3, hk⟩ | ⟨c1, c2, hk⟩ | ⟨c1, c2, c3, hk⟩ | ⟨c1, c2, c3, c4, hk⟩ | ⟨c1, c2, c3, c4, hk⟩
  all_goals
    have HK := hid hk
    clear hk
    generalize a / 9223372036854775808 = s at *
    generalize a / 4503599627370496 % 2048 = x at *
    generalize a % 4503599627370496 = f at *
    try subst s
    go_enter Try.func35, Try.ntmps35
    go_wp2_with (go_at_call 42; refine HC.out.mono ?_; rintro e w' ⟨rfl, rfl⟩)
    go_ret
    exact ⟨ret_i64 (by rw [HK.out]), rfl⟩

end Go.Proofs.Ytpobkbedablfeaa
