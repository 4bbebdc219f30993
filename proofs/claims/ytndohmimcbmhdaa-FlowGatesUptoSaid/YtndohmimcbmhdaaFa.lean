/- flow's and the document's small functions; rising labels by their lists. -/
import Derived.Test.YtndohmimcbmhdaaHy
set_option linter.unusedVariables false
set_option linter.unusedSimpArgs false
namespace Go.Proofs.Ytndohmimcbmhdaa
open Go.RowKit Go.Sort

def starC (x : Int × Int) : Bool := x.2 == 0
theorem star153 (x : Int × Int) (W : World) : Calls Try.prog 153 #[.agg #[.int .u64 x.1, .int .i64 x.2]] W fun e w' => e = .returned (.bool (starC x)) ∧ Below W.heap.size W w' := by
  obtain ⟨i, v⟩ := x
  show Calls Try.prog 153 #[.agg #[.int .u64 i, .int .i64 v]] W _
  have HB := hid ((Below.refl W.heap.size W).alloc (Nat.le_refl _) (.cells #[.int .u64 i, .int .i64 v] 32))
  have HO : Hid (starC (i, v) = (v == 0)) := rfl
  go_enter Try.func153, Try.ntmps153
  go_wp2_with fail
  go_ret
  exact ⟨by rw [HO.out]; rfl, HB.out⟩
theorem eg153 : ∀ args w, (callFunc 153 args).run Try.prog w = .ok (.enter 153 args) w := fun args w => by
  first | kernel_rfl | (simp [callFunc]; done)
theorem star_ok (W : World) : TestOk 153 #[] starC W := fun W' hW' x => (star153 x W').mono fun e w' ⟨he, hb⟩ => ⟨he, hW'.trans (hb.mono hW'.size)⟩

def pureB (d : Int) (cs : List (Int × Int)) : Bool := rightB d cs && !(cs.any starC)
def pureD (d : Int) (cs : List (Int × Int)) : Bool := !(d == 0) && !(cs.any starC)
theorem right_def {d : Int} {l : List (Int × Int)} (h : rightB d l = true) : 1 ≤ d ∧ d ≤ 4 ∧ l.length ≤ 6 := by
  unfold rightB at h
  simp only [Bool.and_eq_true, decide_eq_true_eq] at h
  exact h.1
theorem pure_both (d : Int) (cs : List (Int × Int)) : (rightB d cs && pureD d cs) = pureB d cs := by
  unfold pureB pureD
  cases h : rightB d cs with
  | false => rfl
  | true =>
    have := right_def h
    have e : (d == 0) = false := by simp; omega
    rw [e]
    rfl

set_option maxHeartbeats 2000000 in
set_option maxRecDepth 100000 in
theorem pure113 (w : World) (d : Int) (A : Option Addr) (n c : Nat) (cs : List (Int × Int)) (h : CatsAt w w.heap.size A n c cs) :
    Calls Try.prog 113 #[.agg #[.int .i64 d, .slice A n c]] w fun e w' => e = .returned (.bool (pureB d cs)) ∧ Below w.heap.size w w' := by
  have HB : Hid (Below w.heap.size w (w.alloc (.cells #[.int .i64 d, .slice A n c] 26))) := (Below.refl _ w).alloc (Nat.le_refl _) _
  have HP1 : Hid (Blk (w.alloc (.cells #[.int .i64 d, .slice A n c] 26)) w.heap.size 26 #[.int .i64 d, .slice A n c]) := Blk.new w 26 _
  have HC := hid ((h.below HB.out).more HB.out.size)
  have HE : Hid (pureB d cs = (rightB d cs && !(cs.any starC))) := rfl
  clear h
  go_enter Try.func113, Try.ntmps113
  go_wp2_with (refine wp_list_told 9 9 nil_ rfl (by decide) ?_)
  generalize w.alloc (.cells #[.int .i64 d, .slice A n c] 26) = wa at *
  have HF : Hid (∀ W, But nil_ wa W → W.cell? ⟨w.heap.size, 0, none⟩ = some (.int .i64 d) ∧ W.cell? ⟨w.heap.size, 1, none⟩ = some (.slice A n c)) := fun W hW => (hW.blk HP1.out (fun h => h)).cells2
  have HR := hid (fun W (hW : But nil_ wa W) => right51 W d A n c cs (HC.out.since_ hW))
  have HS := hid (fun W (hW : But nil_ wa W) => containsFunc102 W A n c cs 153 #[] starC (HC.out.since_ hW) (star_ok W) eg153)
  generalize rightB d cs = q at *
  generalize cs.any starC = p at *
  simp only [List.take_succ_cons, List.take_zero, List.drop_succ_cons, List.drop_zero]
  repeat (refine told_val (v := ?_) (fun _ => rfl) (fun vs W hW => ?_) ?_; rotate_left; (focus (have hf := HF.out W hW; clear hW; go_simp; exact loose_val)); simp only [Act.put, List.setIfInBounds_toArray, List.set_cons_zero, List.set_cons_succ, List.nil_append, List.cons_append, Nat.reduceAdd, Leaves.at])
  refine told_val (v := .bool q) (fun _ => rfl) (fun vs W hW => ?_) ?_
  · go_simp
    exact loose_call (HR.out W hW)
  simp only [Act.put, List.setIfInBounds_toArray, List.set_cons_zero, List.set_cons_succ, List.nil_append, List.cons_append, Nat.reduceAdd, Leaves.at]
  repeat (refine told_val (v := ?_) (fun _ => rfl) (fun vs W hW => ?_) ?_; rotate_left; (focus (have hf := HF.out W hW; clear hW; go_simp; exact loose_val)); simp only [Act.put, List.setIfInBounds_toArray, List.set_cons_zero, List.set_cons_succ, List.nil_append, List.cons_append, Nat.reduceAdd, Leaves.at])
  repeat (refine told_maybe (b := q) (v := ?_) (fun _ => Bool.casesOn q rfl rfl) (fun hb vs W hW => ?_) ?_; rotate_left; (focus (have hf := HF.out W hW; clear hW; (try simp only [hb, cond_true, cond_false]); go_simp; exact loose_val)); simp only [Act.put, List.setIfInBounds_toArray, List.set_cons_zero, List.set_cons_succ, List.nil_append, List.cons_append, Nat.reduceAdd, Leaves.at])
  refine told_maybe (b := q) (v := .bool p) (fun _ => Bool.casesOn q rfl rfl) (fun hb vs W hW => ?_) ?_
  · try simp only [hb, cond_true, cond_false]
    go_simp
    exact loose_call (HS.out W hW)
  simp only [Act.put, List.setIfInBounds_toArray, List.set_cons_zero, List.set_cons_succ, List.nil_append, List.cons_append, Nat.reduceAdd, Leaves.at]
  repeat (refine told_maybe (b := q) (v := ?_) (fun _ => Bool.casesOn q rfl rfl) (fun hb vs W hW => ?_) ?_; rotate_left; (focus (have hf := HF.out W hW; clear hW; (try simp only [hb, cond_true, cond_false]); go_simp; exact loose_val)); simp only [Act.put, List.setIfInBounds_toArray, List.set_cons_zero, List.set_cons_succ, List.nil_append, List.cons_append, Nat.reduceAdd, Leaves.at])
  refine told_val (v := .bool (q && !p)) (fun _ => rfl) (fun vs W hW => ?_) ?_
  · cases q <;> cases p <;> (go_simp; exact loose_val)
  simp only [Act.put, List.setIfInBounds_toArray, List.set_cons_zero, List.set_cons_succ, List.nil_append, List.cons_append, Nat.reduceAdd, Leaves.at]
  repeat (refine told_val (v := ?_) (fun _ => rfl) (fun vs W hW => ?_) ?_; rotate_left; (focus (have hf := HF.out W hW; clear hW; go_simp; exact loose_val)); simp only [Act.put, List.setIfInBounds_toArray, List.set_cons_zero, List.set_cons_succ, List.nil_append, List.cons_append, Nat.reduceAdd, Leaves.at])
  refine told_nil ?_
  intro vs W hW hok hap
  clear hap
  dsimp only
  have HB2 := hid (HB.out.trans (since_below hW HB.out.size))
  clear hok hW
  go_wp2_with fail
  go_ret
  exact ⟨by rw [HE.out]; rfl, HB2.out⟩

set_option maxHeartbeats 2000000 in
set_option maxRecDepth 100000 in
theorem pure114 (w : World) (d : Int) (A : Option Addr) (n c : Nat) (cs : List (Int × Int)) (h : CatsAt w w.heap.size A n c cs) :
    Calls Try.prog 114 #[.agg #[.int .i64 d, .slice A n c]] w fun e w' => e = .returned (.bool (pureD d cs)) ∧ Below w.heap.size w w' := by
  have HB : Hid (Below w.heap.size w (w.alloc (.cells #[.int .i64 d, .slice A n c] 26))) := (Below.refl _ w).alloc (Nat.le_refl _) _
  have HP1 : Hid (Blk (w.alloc (.cells #[.int .i64 d, .slice A n c] 26)) w.heap.size 26 #[.int .i64 d, .slice A n c]) := Blk.new w 26 _
  have HC := hid ((h.below HB.out).more HB.out.size)
  have HLN := hid h.len
  have hmx : n ≤ 9223372036854775807 := by have := h.cap; have := h.max; unfold maxLen at this; omega
  have HE : Hid (pureD d cs = (!(d == 0) && !(cs.any starC))) := rfl
  clear h
  by_cases hd : d = 0
  · subst hd
    go_enter Try.func114, Try.ntmps114
    go_wp2_with fail
    go_ret
    exact ⟨by rw [HE.out]; rfl, HB.out⟩
  · have hd0 : (d == 0) = false := by simpa using hd
    have HE2 : Hid (pureD d cs = !(cs.any starC)) := by show _ = _; rw [HE.out, hd0]; rfl
    go_enter Try.func114, Try.ntmps114
    go_wp2_with fail
    generalize w.alloc (.cells #[.int .i64 d, .slice A n c] 26) = wa at *
    go_loopw [11] (fun vi wr => ∃ k : Nat, k ≤ n ∧ vi = .int .i64 k ∧ Hid (Since wa wr) ∧ Hid ((cs.take k).any starC = false)) (fun vi _ => n - (intOf vi).toNat)
    case atStart => exact ⟨0, Nat.zero_le _, rfl, But.refl _ _, rfl⟩
    case round =>
      obtain ⟨k, hk, rfl, BW, AN⟩ := hrel
      by_cases hlt : k < n
      · have hltz : (k : Int) < (n : Int) := by omega
        obtain ⟨b, off, i, v, rfl, hbB, hx, c0, c1⟩ := (HC.out.since_ BW.out).at2_ hlt
        have HX := hid hx
        have HAS := hid (any_snoc starC cs k _ hx)
        have HBr := hid (HB.out.trans (since_below (BW.out.alloc (.cells #[.int .u64 i, .int .i64 v] 32)) HB.out.size))
        clear hx
        by_cases g1 : v = 0
        · subst g1
          have HE3 : Hid (pureD d cs = false) := by show _ = _; rw [HE2.out, any_hit HX.out rfl]; rfl
          go_wp2_with fail
          go_ret
          exact ⟨by rw [HE3.out]; rfl, HBr.out⟩
        · have g2 : (v == 0) = false := by simpa using g1
          have HO : Hid (starC (i, v) = false) := g2
          go_wp2_with fail
          go_roundw
          case measure => simp [intOf] <;> omega
          case rel => exact ⟨k + 1, by omega, by go_num, BW.out.alloc _, by rw [HAS.out, AN.out, HO.out]; rfl⟩
      · have hltz : ¬ (k : Int) < (n : Int) := by omega
        have HE3 : Hid (pureD d cs = true) := by
          show _ = _
          have := AN.out
          rw [List.take_of_length_le (by rw [HLN.out]; omega)] at this
          rw [HE2.out, this]; rfl
        have HBr := hid (HB.out.trans (since_below BW.out HB.out.size))
        go_wp2_with fail
        go_ret
        exact ⟨by rw [HE3.out]; rfl, HBr.out⟩

set_option maxHeartbeats 2000000 in
set_option maxRecDepth 100000 in
theorem raise112 (w : World) (d : Int) (A : Option Addr) (n c : Nat) (cs : List (Int × Int)) (h : CatsAt w w.heap.size A n c cs) (hn : n ≤ 8796093022208) :
    Calls Try.prog 112 #[.agg #[.int .i64 d, .slice A n c]] w fun e w' => RetLab (turnF 0 5 d d) (raiseL d cs) w e w' := by
  obtain ⟨q1, q2, q3⟩ := two_blk w #[.int .i64 d, .slice A n c] #[.int .i64 0, .slice none 0 0] 26 26
  have HB := hid q1
  have HP1 := hid q2
  have HP2 := hid q3
  have HC := hid ((h.below q1).more q1.size)
  clear h q1 q2 q3
  go_enter Try.func112, Try.ntmps112
  go_wp2_with fail
  generalize (w.alloc (.cells #[.int .i64 d, .slice A n c] 26)).alloc (.cells #[.int .i64 0, .slice none 0 0] 26) = wa at *
  refine (turn47_raise wa d A n c cs HC.out hn).mono ?_
  rintro e w1 ⟨v, rfl, ⟨A1, n1, c1, rfl, hT⟩, hb⟩
  have HK := HP2.out.below hb HP2.out.lt
  obtain ⟨⟨z0, z1⟩, z2, z3⟩ := label_zero HK
  have HT := hid hT
  have HKH := hid HK
  have HB2 := hid (HB.out.trans (hb.mono HB.out.size))
  have hlt := HP2.out.lt
  have hs := hb.size
  clear hb hT HK
  go_wp2_with fail
  refine bodyPost_ret (label_run (label_put HKH.out _ _) rfl _ rfl) rfl ?_
  obtain ⟨Wp, hwp, K1, BW⟩ := put1 HKH.out (.int .i64 (turnF 0 5 d d)) (.slice A1 n1 c1)
  rw [hwp]
  exact ⟨_, rfl, ⟨A1, n1, c1, rfl, (HT.out.keep (Nat.le_refl _) BW fun g hg => by subst hg; exact bare26 HKH.out).more BW.size⟩, BW.done HB2.out (fun k hk => by subst hk; omega) HB2.out.size⟩

/-! ### Rising labels -/
def risesP : List (Int × List (Int × Int)) → Bool
  | p :: q :: r => leqB p.1 p.2 q.1 q.2 && risesP (q :: r)
  | _ => true
def LabV.pr (l : LabV) : Int × List (Int × Int) := (l.d, l.cs)
theorem rises_pr : ∀ ls : List LabV, risesB ls = risesP (ls.map LabV.pr) := by
  intro ls
  induction ls with
  | nil => rfl
  | cons x r ih =>
    cases r with
    | nil => rfl
    | cons y r =>
      show risesB (x :: y :: r) = (leqB x.d x.cs y.d y.cs && risesP ((y :: r).map LabV.pr))
      rw [← ih]
      unfold risesB
      simp only [List.length_cons, Nat.add_sub_cancel]
      rw [List.range_succ_eq_map, List.all_cons, List.all_map]
      rfl
def LabsR (ps : List (Int × List (Int × Int))) (W : World) (v : Value) : Prop := ∃ g ls, v = .slice (some ⟨g, 0, none⟩) ls.length ls.length ∧ LabsAt W g ls ∧ ls.map LabV.pr = ps
theorem LabsR.stable {ps : List (Int × List (Int × Int))} {w : World} : (Leaves.rel (LabsR ps)).stable nil_ w :=
  fun _ _ _ _ hb ⟨g, ls, e, hl, hp⟩ => ⟨g, ls, e, hl.below (since_below hb (Nat.le_refl _)), hp⟩
theorem loose_labs {P : Program} {W : World} (ls : List LabV) (h : ∀ l ∈ ls, l.at_ W) : looseUpon P nil_ (.rel (LabsR (ls.map LabV.pr))) W (.ok (.value (.slice (some ⟨W.heap.size, 0, none⟩) ls.length ls.length)) (W.alloc (.cells (ls.flatMap LabV.cells).toArray 26))) :=
  ⟨(But.refl _ _).alloc _, ⟨_, ls, rfl, ⟨Blk.new W 26 _, fun l hl => LabV.at_below (h l hl) ((Below.refl _ W).alloc (Nat.le_refl _) _)⟩, rfl⟩, trivial⟩
theorem rises_R {W : World} {v : Value} {ps : List (Int × List (Int × Int))} (h : LabsR ps W v) (h1 : 1 ≤ ps.length) (h2 : ps.length ≤ 1000) :
    Calls Try.prog 111 #[v] W fun e w' => e = .returned (.bool (risesP ps)) ∧ Below W.heap.size W w' := by
  obtain ⟨g, ls, rfl, hl, rfl⟩ := h
  rw [List.length_map] at h1 h2
  rw [← rises_pr]
  exact rises111 W g ls hl h2 h1
theorem leq41_b (w : World) (d d' : Int) (A A' : Option Addr) (n c n' c' : Nat) (cs cs' : List (Int × Int)) (h : CatsAt w w.heap.size A n c cs) (h' : CatsAt w w.heap.size A' n' c' cs') (hn : n + n' ≤ 17592186044416) :
    Calls Try.prog 41 #[.agg #[.int .i64 d, .slice A n c], .agg #[.int .i64 d', .slice A' n' c']] w fun e w' => e = .returned (.bool (leqB d cs d' cs')) ∧ Below w.heap.size w w' := by
  rw [← leqD_eq]
  exact leq41 w d d' A A' n c n' c' cs cs' h h' hn
end Go.Proofs.Ytndohmimcbmhdaa
