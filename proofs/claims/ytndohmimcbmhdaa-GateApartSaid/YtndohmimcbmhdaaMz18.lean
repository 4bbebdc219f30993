/- flow's and the document's small functions; rising labels by their lists. -/
import Derived.Test.YtndohmimcbmhdaaMz17
import Derived.Test.YtndohmimcbmhdaaMz0
set_option linter.unusedVariables false
set_option linter.unusedSimpArgs false
namespace Go.Proofs.Ytndohmimcbmhdaa
open Go.RowKit Go.Sort

def starC (x : Int × Int) : Bool := x.2 == 0
theorem star153 (x : Int × Int) (W : World) : Calls Try.prog 153 #[.agg #[.int .u64 x.1, .int .i64 x.2]] W fun e w' => e = .returned (.bool (starC x)) ∧ Below W.heap.size W w' := by
  obtain ⟨i, v⟩ := x
  show Calls Try.prog 153 #[.agg #[.int .u64 i, .int .i64 v]] W _
  have HB := hid ((Below.refl W.heap.size W).alloc (Nat.le_refl _) (.cells #[.int .u64 i, .int .i64 v] 32))
  have HO : Hid (starC (i, v) = (v == 0)) := rfl
  go_enter Try.func153, Try.ntmps153
  go_wp2_with fail
  go_ret
  exact ⟨by rw [HO.out]; rfl, HB.out⟩
theorem eg153 : ∀ args w, (callFunc 153 args).run Try.prog w = .ok (.enter 153 args) w := fun args w => by
  first | kernel_rfl | (simp [callFunc]; done)
theorem star_ok (W : World) : TestOk 153 #[] starC W := fun W' hW' x => (star153 x W').mono fun e w' ⟨he, hb⟩ => ⟨he, hW'.trans (hb.mono hW'.size)⟩

def pureB (d : Int) (cs : List (Int × Int)) : Bool := rightB d cs && !(cs.any starC)
def pureD (d : Int) (cs : List (Int × Int)) : Bool := !(d == 0) && !(cs.any starC)
theorem right_def {d : Int} {l : List (Int × Int)} (h : rightB d l = true) : 1 ≤ d ∧ d ≤ 4 ∧ l.length ≤ 6 := by
  unfold rightB at h
  simp only [Bool.and_eq_true, decide_eq_true_eq] at h
  exact h.1
theorem pure_both (d : Int) (cs : List (Int × Int)) : (rightB d cs && pureD d cs) = pureB d cs := by
  unfold pureB pureD
  cases h : rightB d cs with
  | false => rfl
  | true =>
    have := right_def h
    have e : (d == 0) = false := by simp; omega
    rw [e]
    rfl

set_option maxHeartbeats 2000000 in
set_option maxRecDepth 100000 in
theorem pure113 (w : World) (d : Int) (A : Option Addr) (n c : Nat) (cs : List (Int × Int)) (h : CatsAt w w.heap.size A n c cs) :
    Calls Try.prog 113 #[.agg #[.int .i64 d, .slice A n c]] w fun e w' => e = .returned (.bool (pureB d cs)) ∧ Below w.heap.size w w' := by
  have HB : Hid (Below w.heap.size w (w.alloc (.cells #[.int .i64 d, .slice A n c] 26))) := (Below.refl _ w).alloc (Nat.le_refl _) _
  have HP1 : Hid (Blk (w.alloc (.cells #[.int .i64 d, .slice A n c] 26)) w.heap.size 26 #[.int .i64 d, .slice A n c]) := Blk.new w 26 _
  have HC := hid ((h.below HB.out).more HB.out.size)
  have HE : Hid (pureB d cs = (rightB d cs && !(cs.any starC))) := rfl
  clear h
  go_enter Try.func113, Try.ntmps113
  go_wp2_with (refine wp_list_told 9 9 nil_ rfl (by decide) ?_)
  generalize w.alloc (.cells #[.int .i64 d, .slice A n c] 26) = wa at *
  have HF : Hid (∀ W, But nil_ wa W → W.cell? ⟨w.heap.size, 0, none⟩ = some (.int .i64 d) ∧ W.cell? ⟨w.heap.size, 1, none⟩ = some (.slice A n c)) := fun W hW => (hW.blk HP1.out (fun h => h)).cells2
  have HR := hid (fun W (hW : But nil_ wa W) => right51 W d A n c cs (HC.out.since_ hW))
  have HS := hid (fun W (hW : But nil_ wa W) => containsFunc102 W A n c cs 153 #[] starC (HC.out.since_ hW) (star_ok W) eg153)
  generalize rightB d cs = q at *
  generalize cs.any starC = p at *
  try simp only [List.take_succ_cons, List.take_zero, List.drop_succ_cons, List.drop_zero]
  repeat (refine told_val (v := ?_) (fun _ => rfl) (fun vs W hW => ?_) ?_; rotate_left; (focus (have hf := HF.out W hW; clear hW; go_simp; exact loose_val)); simp only [Act.put, List.setIfInBounds_toArray, List.set_cons_zero, List.set_cons_succ, List.nil_append, List.cons_append, Nat.reduceAdd, Leaves.at])
  refine told_val (v := .bool q) (fun _ => rfl) (fun vs W hW => ?_) ?_
  · go_simp
    exact loose_call (HR.out W hW)
  simp only [Act.put, List.setIfInBounds_toArray, List.set_cons_zero, List.set_cons_succ, List.nil_append, List.cons_append, Nat.reduceAdd, Leaves.at]
  repeat (refine told_val (v := ?_) (fun _ => rfl) (fun vs W hW => ?_) ?_; rotate_left; (focus (have hf := HF.out W hW; clear hW; go_simp; exact loose_val)); simp only [Act.put, List.setIfInBounds_toArray, List.set_cons_zero, List.set_cons_succ, List.nil_append, List.cons_append, Nat.reduceAdd, Leaves.at])
  repeat (refine told_maybe (b := q) (v := ?_) (fun _ => Bool.casesOn q rfl rfl) (fun hb vs W hW => ?_) ?_; rotate_left; (focus (have hf := HF.out W hW; clear hW; (try simp only [hb, cond_true, cond_false]); go_simp; exact loose_val)); simp only [Act.put, List.setIfInBounds_toArray, List.set_cons_zero, List.set_cons_succ, List.nil_append, List.cons_append, Nat.reduceAdd, Leaves.at])
  refine told_maybe (b := q) (v := .bool p) (fun _ => Bool.casesOn q rfl rfl) (fun hb vs W hW => ?_) ?_
  · try simp only [hb, cond_true, cond_false]
    go_simp
    exact loose_call (HS.out W hW)
  simp only [Act.put, List.setIfInBounds_toArray, List.set_cons_zero, List.set_cons_succ, List.nil_append, List.cons_append, Nat.reduceAdd, Leaves.at]
  repeat (refine told_maybe (b := q) (v := ?_) (fun _ => Bool.casesOn q rfl rfl) (fun hb vs W hW => ?_) ?_; rotate_left; (focus (have hf := HF.out W hW; clear hW; (try simp only [hb, cond_true, cond_false]); go_simp; exact loose_val)); simp only [Act.put, List.setIfInBounds_toArray, List.set_cons_zero, List.set_cons_succ, List.nil_append, List.cons_append, Nat.reduceAdd, Leaves.at])
  refine told_val (v := .bool (q && !p)) (fun _ => rfl) (fun vs W hW => ?_) ?_
  · cases q <;> cases p <;> (go_simp; exact loose_val)
  simp only [Act.put, List.setIfInBounds_toArray, List.set_cons_zero, List.set_cons_succ, List.nil_append, List.cons_append, Nat.reduceAdd, Leaves.at]
  repeat (refine told_val (v := ?_) (fun _ => rfl) (fun vs W hW => ?_) ?_; rotate_left; (focus (have hf := HF.out W hW; clear hW; go_simp; exact loose_val)); simp only [Act.put, List.setIfInBounds_toArray, List.set_cons_zero, List.set_cons_succ, List.nil_append, List.cons_append, Nat.reduceAdd, Leaves.at])
  refine told_nil ?_
  intro vs W hW hok hap
  clear hap
  dsimp only
  have HB2 := hid (HB.out.trans (since_below hW HB.out.size))
  clear hok hW
  go_wp2_with fail
  go_ret
  exact ⟨by rw [HE.out]; rfl, HB2.out⟩

set_option maxHeartbeats 2000000 in
set_option maxRecDepth 100000 in
theorem pure114 (w : World) (d : Int) (A : Option Addr) (n c : Nat) (cs : List (Int × Int)) (h : CatsAt w w.heap.size A n c cs) :
    Calls Try.prog 114 #[.agg #[.int .i64 d, .slice A n c]] w fun e w' => e = .returned (.bool (pureD d cs)) ∧ Below w.heap.size w w' := by
  have HB : Hid (Below w.heap.size w (w.alloc (.cells #[.int .i64 d, .slice A n c] 26))) := (Below.refl _ w).alloc (Nat.le_refl _) _
  have HP1 : Hid (Blk (w.alloc (.cells #[.int .i64 d, .slice A n c] 26)) w.heap.size 26 #[.int .i64 d, .slice A n c]) := Blk.new w 26 _
  have HC := hid ((h.below HB.out).more HB.out.size)
  have HLN := hid h.len
  have hmx : n ≤ 9223372036854775807 := by have := h.cap; have := h.max; unfold maxLen at this; omega
  have HE : Hid (pureD d cs = (!(d == 0) && !(cs.any starC))) := rfl
  clear h
  by_cases hd : d = 0
  · subst hd
    go_enter Try.func114, Try.ntmps114
    go_wp2_with fail
    go_ret
    exact ⟨by rw [HE.out]; rfl, HB.out⟩
  · have hd0 : (d == 0) = false := by simpa using hd
    have HE2 : Hid (pureD d cs = !(cs.any starC)) := by show _ = _; rw [HE.out, hd0]; rfl
    go_enter Try.func114, Try.ntmps114
    go_wp2_with fail
    generalize w.alloc (.cells #[.int .i64 d, .slice A n c] 26) = wa at *
    go_loopw [11] (fun vi wr => ∃ k : Nat, k ≤ n ∧ vi = .int .i64 k ∧ Hid (Since wa wr) ∧ Hid ((cs.take k).any starC = false)) (fun vi _ => n - (intOf vi).toNat)
    case atStart => exact ⟨0, Nat.zero_le _, rfl, But.refl _ _, rfl⟩
    case round =>
      obtain ⟨k, hk, rfl, BW, AN⟩ := hrel
      by_cases hlt : k < n
      · have hltz : (k : Int) < (n : Int) := by omega
        obtain ⟨b, off, i, v, rfl, hbB, hx, c0, c1⟩ := (HC.out.since_ BW.out).at2_ hlt
        have HX := hid hx
        have HAS := hid (any_snoc starC cs k _ hx)
        have HBr := hid (HB.out.trans (since_below (BW.out.alloc (.cells #[.int .u64 i, .int .i64 v] 32)) HB.out.size))
        clear hx
        by_cases g1 : v = 0
        · subst g1
          have HE3 : Hid (pureD d cs = false) := by show _ = _; rw [HE2.out, any_hit HX.out rfl]; rfl
          go_wp2_with fail
          go_ret
          exact ⟨by rw [HE3.out]; rfl, HBr.out⟩
        · have g2 : (v == 0) = false := by simpa using g1
          have HO : Hid (starC (i, v) = false) := g2
          go_wp2_with fail
          go_roundw
          case measure => simp [intOf] <;> omega
          case rel => exact ⟨k + 1, by omega, by go_num, BW.out.alloc _, by rw [HAS.out, AN.out, HO.out]; rfl⟩
      · have hltz : ¬ (k : Int) < (n : Int) := by omega
        have HE3 : Hid (pureD d cs = true) := by
          show _ = _
          have := AN.out
          rw [List.take_of_length_le (by rw [HLN.out]; omega)] at this
          rw [HE2.out, this]; rfl
        have HBr := hid (HB.out.trans (since_below BW.out HB.out.size))
        go_wp2_with fail
        go_ret
        exact ⟨by rw [HE3.out]; rfl, HBr.out⟩

set_option maxHeartbeats 2000000 in
set_option maxRecDepth 100000 in
theorem raise112 (w : World) (d : Int) (A : Option Addr) (n c : Nat) (cs : List (Int × Int)) (h : CatsAt w w.heap.size A n c cs) (hn : n ≤ 8796093022208) :
    Calls Try.prog 112 #[.agg #[.int .i64 d, .slice A n c]] w fun e w' => RetLab (turnF 0 5 d d) (raiseL d cs) w e w' := by
  obtain ⟨q1, q2, q3⟩ := two_blk w #[.int .i64 d, .slice A n c] #[.int .i64 0, .slice none 0 0] 26 26
  have HB := hid q1
  have HP1 := hid q2
  have HP2 := hid q3
  have HC := hid ((h.below q1).more q1.size)
  clear h q1 q2 q3
  go_enter Try.func112, Try.ntmps112
  go_wp2_with fail
  generalize (w.alloc (.cells #[.int .i64 d, .slice A n c] 26)).alloc (.cells #[.int .i64 0, .slice none 0 0] 26) = wa at *
  refine (turn47_raise wa d A n c cs HC.out hn).mono ?_
  rintro e w1 ⟨v, rfl, ⟨A1, n1, c1, rfl, hT⟩, hb⟩
  have HK := HP2.out.below hb HP2.out.lt
  obtain ⟨⟨z0, z1⟩, z2, z3⟩ := label_zero HK
  have HT := hid hT
  have HKH := hid HK
  have HB2 := hid (HB.out.trans (hb.mono HB.out.size))
  have hlt := HP2.out.lt
  have hs := hb.size
  clear hb hT HK
  go_wp2_with fail
  refine bodyPost_ret (label_run (label_put HKH.out _ _) rfl _ rfl) rfl ?_
  obtain ⟨Wp, hwp, K1, BW⟩ := put1 HKH.out (.int .i64 (turnF 0 5 d d)) (.slice A1 n1 c1)
  rw [hwp]
  exact ⟨_, rfl, ⟨A1, n1, c1, rfl, (HT.out.keep (Nat.le_refl _) BW fun g hg => by subst hg; exact bare26 HKH.out).more BW.size⟩, BW.done HB2.out (fun k hk => by subst hk; omega) HB2.out.size⟩

/-! ### Rising labels -/
def risesP : List (Int × List (Int × Int)) → Bool
  | p :: q :: r => leqB p.1 p.2 q.1 q.2 && risesP (q :: r)
  | _ => true
def LabV.pr (l : LabV) : Int × List (Int × Int) := (l.d, l.cs)
theorem rises_pr : ∀ ls : List LabV, risesB ls = risesP (ls.map LabV.pr) := by
  intro ls
  induction ls with
  | nil => rfl
  | cons x r ih =>
    cases r with
    | nil => rfl
    | cons y r =>
      show risesB (x :: y :: r) = (leqB x.d x.cs y.d y.cs && risesP ((y :: r).map LabV.pr))
      rw [← ih]
      unfold risesB
      simp only [List.length_cons, Nat.add_sub_cancel]
      rw [List.range_succ_eq_map, List.all_cons, List.all_map]
      rfl
def LabsR (ps : List (Int × List (Int × Int))) (W : World) (v : Value) : Prop := ∃ g ls, v = .slice (some ⟨g, 0, none⟩) ls.length ls.length ∧ LabsAt W g ls ∧ ls.map LabV.pr = ps
theorem LabsR.stable {ps : List (Int × List (Int × Int))} {w : World} : (Leaves.rel (LabsR ps)).stable nil_ w :=
  fun _ _ _ _ hb ⟨g, ls, e, hl, hp⟩ => ⟨g, ls, e, hl.below (since_below hb (Nat.le_refl _)), hp⟩
theorem loose_labs {P : Program} {W : World} (ls : List LabV) (h : ∀ l ∈ ls, l.at_ W) : looseUpon P nil_ (.rel (LabsR (ls.map LabV.pr))) W (.ok (.value (.slice (some ⟨W.heap.size, 0, none⟩) ls.length ls.length)) (W.alloc (.cells (ls.flatMap LabV.cells).toArray 26))) :=
  ⟨(But.refl _ _).alloc _, ⟨_, ls, rfl, ⟨Blk.new W 26 _, fun l hl => LabV.at_below (h l hl) ((Below.refl _ W).alloc (Nat.le_refl _) _)⟩, rfl⟩, trivial⟩
theorem rises_R {W : World} {v : Value} {ps : List (Int × List (Int × Int))} (h : LabsR ps W v) (h1 : 1 ≤ ps.length) (h2 : ps.length ≤ 1000) :
    Calls Try.prog 111 #[v] W fun e w' => e = .returned (.bool (risesP ps)) ∧ Below W.heap.size W w' := by
  obtain ⟨g, ls, rfl, hl, rfl⟩ := h
  rw [List.length_map] at h1 h2
  rw [← rises_pr]
  exact rises111 W g ls hl h2 h1
theorem leq41_b (w : World) (d d' : Int) (A A' : Option Addr) (n c n' c' : Nat) (cs cs' : List (Int × Int)) (h : CatsAt w w.heap.size A n c cs) (h' : CatsAt w w.heap.size A' n' c' cs') (hn : n + n' ≤ 17592186044416) :
    Calls Try.prog 41 #[.agg #[.int .i64 d, .slice A n c], .agg #[.int .i64 d', .slice A' n' c']] w fun e w' => e = .returned (.bool (leqB d cs d' cs')) ∧ Below w.heap.size w w' := by
  rw [← leqD_eq]
  exact leq41 w d d' A A' n c n' c' cs cs' h h' hn
end Go.Proofs.Ytndohmimcbmhdaa

/- Plain facts on the words of doubles: which words are no number; how such a word stands to itself. -/
set_option linter.unusedVariables false
set_option linter.unusedSimpArgs false
namespace Go.Proofs.Ytndohmimcbmhdaa
open Go.RowKit
/-- The word of a double that is no number. -/
def nanB (a : Int) : Bool := decide (9218868437227405312 < a % 9223372036854775808)
/-- The one form. -/
def canon (a : Int) : Int := if nanB a then 9221120237041090561 else a

theorem double_sign : Ieee.double.signWeight = 9223372036854775808 := by decide
theorem double_inf : Ieee.double.infRung = 9218868437227405312 := by decide
theorem double_binade : Ieee.double.binade = 4503599627370496 := by decide

theorem read_nan (a : Nat) (h : 9218868437227405312 < a % 9223372036854775808) : ∃ s t, Ieee.double.read a = .nan s t := by
  unfold Ieee.Format.read
  simp only [double_sign, double_inf, double_binade]
  rw [if_neg (by omega), if_neg (by omega), if_neg (by omega)]
  exact ⟨_, _, rfl⟩

theorem read_num (a : Nat) (h : ¬ 9218868437227405312 < a % 9223372036854775808) : (∃ s m p, Ieee.double.read a = .number s m p) ∨ (∃ s, Ieee.double.read a = .infinity s) := by
  unfold Ieee.Format.read
  simp only [double_sign, double_inf, double_binade]
  by_cases h1 : a % 9223372036854775808 < 4503599627370496
  · rw [if_pos h1]; exact .inl ⟨_, _, _, rfl⟩
  · rw [if_neg h1]
    by_cases h2 : a % 9223372036854775808 < 9218868437227405312
    · rw [if_pos h2]; exact .inl ⟨_, _, _, rfl⟩
    · rw [if_neg h2, if_pos (by omega)]; exact .inr ⟨_, rfl⟩

theorem compare_int_self (x : Int) : compare x x = .eq := by simp [compare, compareOfLessAndEq]
theorem compare_nat_self (x : Nat) : compare x x = .eq := by simp [compare, compareOfLessAndEq]

theorem order_self (a : Int) (h0 : 0 ≤ a) : Ieee.double.order a.toNat a.toNat = if nanB a then none else some .eq := by
  unfold Ieee.Format.order nanB
  by_cases h : 9218868437227405312 < a % 9223372036854775808
  · obtain ⟨s, t, e⟩ := read_nan a.toNat (by omega)
    rw [e]; simp [h, Ieee.Datum.order]
  · rcases read_num a.toNat (by omega) with ⟨s, m, p, e⟩ | ⟨s, e⟩
    · rw [e]; simp [h, Ieee.Datum.order]
    · rw [e]; simp [h, Ieee.Datum.order]

theorem neq_self_nan (a : Int) (h0 : 0 ≤ a) (h : nanB a = true) : (FloatKind.f64.format.order a.toNat a.toNat != some .eq) = true := by
  show (Ieee.double.order _ _ != _) = _
  rw [order_self a h0, h]; rfl
theorem neq_self_num (a : Int) (h0 : 0 ≤ a) (h : nanB a = false) : (FloatKind.f64.format.order a.toNat a.toNat != some .eq) = false := by
  show (Ieee.double.order _ _ != _) = _
  rw [order_self a h0, h]; rfl

theorem canon_nan {a : Int} (h : nanB a = true) : canon a = 9221120237041090561 := by unfold canon; rw [if_pos h]
theorem canon_num {a : Int} (h : nanB a = false) : canon a = a := by unfold canon; rw [if_neg (by simp [h])]
theorem canon_nonneg {a : Int} (h : 0 ≤ a) : 0 ≤ canon a := by unfold canon; split <;> omega
theorem canon_lt {a : Int} (h : a < 18446744073709551616) : canon a < 18446744073709551616 := by unfold canon; split <;> omega
theorem nan_canon (a : Int) : nanB (canon a) = nanB a := by
  cases h : nanB a
  · rw [canon_num h, h]
  · rw [canon_nan h]; decide
theorem canon_canon (a : Int) : canon (canon a) = canon a := by
  cases h : nanB a
  · rw [canon_num h, canon_num h]
  · rw [canon_nan h]; decide
end Go.Proofs.Ytndohmimcbmhdaa

/- Things: their cells, what they hold, whether two are the same, whether one can be. -/
set_option linter.unusedVariables false
set_option linter.unusedSimpArgs false
namespace Go.Proofs.Ytndohmimcbmhdaa
open Go.RowKit Go.Sort

/-- A slice's three parts. -/
structure Sl where
  a : Option Addr
  n : Nat
  c : Nat
def Sl.v (s : Sl) : Value := .slice s.a s.n s.c

/-- What a thing's cells hold. -/
structure Th where
  id : Int
  kind : Int
  d1 : Int
  l1 : Sl
  d2 : Int
  l2 : Sl
  quota : Int
  next : Int
  links : Sl
  data : Sl
  r0 : Int
  r1 : Int
  r2 : Int
  r3 : Int
  minted : Int
  boot : Int
  halt : Bool
  value : Int
  s0 : Int
  s1 : Int
  s2 : Int
  s3 : Int
  s4 : Int
  s5 : Int
  s6 : Int
  s7 : Int

/-- What its four slices hold. -/
structure Tl where
  l1 : List (Int × Int)
  l2 : List (Int × Int)
  links : List (Int × Int)
  data : List Int

def Th.cells (t : Th) : List Value :=
  [.int .u64 t.id, .int .i64 t.kind, .int .i64 t.d1, .slice t.l1.a t.l1.n t.l1.c, .int .i64 t.d2, .slice t.l2.a t.l2.n t.l2.c, .int .i64 t.quota, .int .i64 t.next, .slice t.links.a t.links.n t.links.c, .slice t.data.a t.data.n t.data.c,
   .int .u64 t.r0, .int .u64 t.r1, .int .u64 t.r2, .int .u64 t.r3, .int .i64 t.minted, .int .i64 t.boot, .bool t.halt, .int .u64 t.value, .int .u64 t.s0, .int .u64 t.s1, .int .u64 t.s2, .int .u64 t.s3, .int .u64 t.s4, .int .u64 t.s5, .int .u64 t.s6, .int .u64 t.s7]
def thC (t : Th) : Array Value := t.cells.toArray
def thV (t : Th) : Value := .agg (thC t)

/-- A slice value that reads as these bytes, below block B. -/
structure BytesAt (w : World) (B : Nat) (A : Option Addr) (n c : Nat) (bs : List Int) : Prop where
  len : bs.length = n
  cap : n ≤ c
  max : c ≤ maxLen
  fit : ∀ x ∈ bs, 0 ≤ x ∧ x ≤ 255
  cells : 0 < n → ∃ b off, A = some ⟨b, off, none⟩ ∧ b < B ∧ ∀ i x, bs[i]? = some x → w.cell? ⟨b, off + i, none⟩ = some (.int .u8 x)
section
variable {w w' : World} {B B' : Nat} {A : Option Addr} {n c : Nat} {bs : List Int}
theorem BytesAt.below (h : BytesAt w B A n c bs) (hb : Below B w w') : BytesAt w' B A n c bs :=
  ⟨h.len, h.cap, h.max, h.fit, fun hn => by
    obtain ⟨b, off, e, hB, hc⟩ := h.cells hn
    exact ⟨b, off, e, hB, fun i x hx => (hb.cell (p := ⟨b, off + i, none⟩) hB).trans (hc i x hx)⟩⟩
theorem BytesAt.more (h : BytesAt w B A n c bs) (hB : B ≤ B') : BytesAt w B' A n c bs :=
  ⟨h.len, h.cap, h.max, h.fit, fun hn => by
    obtain ⟨b, off, e, hb, hc⟩ := h.cells hn
    exact ⟨b, off, e, by omega, hc⟩⟩
theorem BytesAt.nil_ : BytesAt w B none 0 0 [] := ⟨rfl, Nat.le_refl _, by simp [maxLen], (fun _ h => nomatch h), fun h => absurd h (by omega)⟩
theorem BytesAt.since_ {W : World} (h : BytesAt w w.heap.size A n c bs) (hW : Since w W) : BytesAt W W.heap.size A n c bs := (h.below (since_below hW (Nat.le_refl _))).more hW.size
def byteCells (bs : List Int) : List Value := bs.map (Value.int .u8)
theorem byteCells_one (bs : List Int) : ∀ v ∈ byteCells bs, v.oneCell' = true := by
  intro v hv
  unfold byteCells at hv
  rw [List.mem_map] at hv
  obtain ⟨x, _, rfl⟩ := hv
  rfl
theorem BytesAt.reads (h : BytesAt w B A n c bs) : Reads w B 1 A n (byteCells bs) := by
  refine ⟨by unfold byteCells; rw [List.length_map, h.len, Nat.mul_one], fun hn => ?_⟩
  obtain ⟨b, off, e, hb, hc⟩ := h.cells hn
  refine ⟨⟨b, off, none⟩, e, hb, fun j u hu => ?_⟩
  have ha : (⟨b, off, none⟩ : Addr).add j = ⟨b, off + j, none⟩ := by unfold Addr.add; split <;> simp_all
  rw [ha]
  unfold byteCells at hu
  rw [List.getElem?_map] at hu
  cases hx : bs[j]? with
  | none => rw [hx] at hu; cases hu
  | some x => rw [hx] at hu; rw [hc j x hx]; exact hu
end

def u64R (x : Int) : Prop := 0 ≤ x ∧ x ≤ 18446744073709551615
def i64R (x : Int) : Prop := -9223372036854775808 ≤ x ∧ x ≤ 9223372036854775807
/-- The numbers are in their kinds' bounds. -/
structure ThR (t : Th) : Prop where
  id : u64R t.id
  kind : i64R t.kind
  d1 : i64R t.d1
  d2 : i64R t.d2
  quota : i64R t.quota
  next : i64R t.next
  r0 : u64R t.r0
  r1 : u64R t.r1
  r2 : u64R t.r2
  r3 : u64R t.r3
  minted : i64R t.minted
  boot : i64R t.boot
  value : u64R t.value
  s0 : u64R t.s0
  s1 : u64R t.s1
  s2 : u64R t.s2
  s3 : u64R t.s3
  s4 : u64R t.s4
  s5 : u64R t.s5
  s6 : u64R t.s6
  s7 : u64R t.s7

/-- A thing whose slices read so. -/
structure ThAt (w : World) (t : Th) (p : Tl) : Prop where
  c1 : CatsAt w w.heap.size t.l1.a t.l1.n t.l1.c p.l1
  c2 : CatsAt w w.heap.size t.l2.a t.l2.n t.l2.c p.l2
  lk : CatsAt w w.heap.size t.links.a t.links.n t.links.c p.links
  dt : BytesAt w w.heap.size t.data.a t.data.n t.data.c p.data
theorem ThAt.since_ {w W : World} {t : Th} {p : Tl} (h : ThAt w t p) (hW : Since w W) : ThAt W t p := ⟨h.c1.since_ hW, h.c2.since_ hW, h.lk.since_ hW, h.dt.since_ hW⟩
theorem ThAt.below {w W : World} {t : Th} {p : Tl} (h : ThAt w t p) (hb : Below w.heap.size w W) : ThAt W t p :=
  ⟨(h.c1.below hb).more hb.size, (h.c2.below hb).more hb.size, (h.lk.below hb).more hb.size, (h.dt.below hb).more hb.size⟩
/-- Another slices, the same numbers. -/
def Th.slices (t : Th) (a b c d : Sl) : Th := { t with l1 := a, l2 := b, links := c, data := d }

/-! ### Two things -/
def numsB (t u : Th) : Bool :=
  (t.id == u.id && (t.kind == u.kind && (t.quota == u.quota && (t.next == u.next && (t.minted == u.minted && (t.boot == u.boot && ((t.r0 == u.r0 && (t.r1 == u.r1 && (t.r2 == u.r2 && t.r3 == u.r3))) && (t.halt == u.halt && (t.value == u.value &&
    (((t.s0 == u.s0 && t.s1 == u.s1) && ((t.s2 == u.s2 && t.s3 == u.s3) && ((t.s4 == u.s4 && t.s5 == u.s5) && (t.s6 == u.s6 && t.s7 == u.s7))))))))))))))
def sameT (t : Th) (p : Tl) (u : Th) (q : Tl) : Bool :=
  numsB t u && (exactB t.d1 p.l1 u.d1 q.l1 && (exactB t.d2 p.l2 u.d2 q.l2 && (eqB p.links q.links && decide (p.data = q.data))))
theorem sameT_refl (t : Th) (p : Tl) : sameT t p t p = true := by simp [sameT, numsB, exactB, eqB]

/-! ### Whether a thing can be -/
def namedB (x : Int) : Bool := decide (1 ≤ x ∧ x ≤ 281474976710655)
def zC (t : Th) (p : Tl) : Bool := decide (t.d2 = 0 ∧ p.l2 = [])
def zN (t : Th) (p : Tl) : Bool := decide (t.next = 0 ∧ p.links = [])
def zT (t : Th) : Bool := decide (t.r0 = 0 ∧ t.r1 = 0 ∧ t.r2 = 0 ∧ t.r3 = 0 ∧ t.minted = 0 ∧ t.boot = 0 ∧ t.halt = false)
def zV (t : Th) : Bool := decide (t.value = 0)
def zD (p : Tl) : Bool := decide (p.data = [])
def zS (t : Th) : Bool := decide (t.s0 = 0 ∧ t.s1 = 0 ∧ t.s2 = 0 ∧ t.s3 = 0 ∧ t.s4 = 0 ∧ t.s5 = 0 ∧ t.s6 = 0 ∧ t.s7 = 0)
def slotOk (a b : Int) : Bool := decide (a = 0 ∧ b = 0) || (namedB a && namedB b)
def linkAt (l : List (Int × Int)) (i : Nat) : Bool := match l[i]? with
  | some x => decide (namedB x.1 = true ∧ 1 ≤ x.2 ∧ x.2 ≤ 48 ∧ (i = 0 ∨ ∀ y, l[i - 1]? = some y → y.1 < x.1))
  | none => true
def linksTo (l : List (Int × Int)) (k : Nat) : Bool := (List.range k).all (linkAt l)
def sumTo (l : List (Int × Int)) (k : Nat) : Int := 1 + ((l.take k).map (·.2)).sum
def linksB (l : List (Int × Int)) (quota : Int) : Bool := decide (l.length ≤ 16) && (linksTo l l.length && decide (sumTo l l.length ≤ quota))
def isCanon (x : Int) : Bool := decide (canon x = x)

theorem linksTo_succ (l : List (Int × Int)) (k : Nat) : linksTo l (k + 1) = (linksTo l k && linkAt l k) := by
  unfold linksTo
  rw [List.range_succ, List.all_append]
  simp
theorem sumTo_succ (l : List (Int × Int)) (k : Nat) (x : Int × Int) (h : l[k]? = some x) : sumTo l (k + 1) = sumTo l k + x.2 := by
  unfold sumTo
  rw [List.take_add_one, h]
  simp only [Option.toList_some, List.map_append, List.map_cons, List.map_nil, List.sum_append, List.sum_cons, List.sum_nil]
  omega
theorem linksTo_at {l : List (Int × Int)} {k j : Nat} (h : linksTo l k = true) (hj : j < k) : linkAt l j = true := by
  unfold linksTo at h
  exact List.all_eq_true.1 h j (List.mem_range.2 hj)
theorem sumTo_le {l : List (Int × Int)} : ∀ {k : Nat}, linksTo l k = true → 1 ≤ sumTo l k ∧ sumTo l k ≤ 1 + 48 * k := by
  intro k
  induction k with
  | zero => intro _; simp [sumTo]
  | succ k ih =>
    intro h
    rw [linksTo_succ, Bool.and_eq_true] at h
    have hk := ih h.1
    cases hx : l[k]? with
    | none =>
      have e : sumTo l (k + 1) = sumTo l k := by
        unfold sumTo
        rw [List.take_add_one, hx]
        simp
      omega
    | some x =>
      rw [sumTo_succ l k x hx]
      have := h.2
      unfold linkAt at this
      rw [hx] at this
      simp only [decide_eq_true_eq] at this
      omega
end Go.Proofs.Ytndohmimcbmhdaa
