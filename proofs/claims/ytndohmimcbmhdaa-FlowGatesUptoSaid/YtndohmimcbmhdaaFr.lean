/- flow.rises. -/
import Derived.Test.YtndohmimcbmhdaaTo
import Derived.Test.YtndohmimcbmhdaaEq
set_option linter.unusedVariables false
set_option linter.unusedSimpArgs false
namespace Go.Proofs.Ytndohmimcbmhdaa
open Go.RowKit Go.Sort

/-- A label as it lies in memory, and its categories. -/
structure LabV where
  d : Int
  A : Option Addr
  n : Nat
  c : Nat
  cs : List (Int × Int)
def LabV.cells (l : LabV) : List Value := [.int .i64 l.d, .slice l.A l.n l.c]
def LabV.at_ (W : World) (l : LabV) : Prop := CatsAt W W.heap.size l.A l.n l.c l.cs
def leqV (a b : LabV) : Bool := leqB a.d a.cs b.d b.cs
def zeroV : LabV := ⟨0, none, 0, 0, []⟩
def risesB (ls : List LabV) : Bool := (List.range (ls.length - 1)).all fun j => leqV (ls.getD j zeroV) (ls.getD (j + 1) zeroV)

theorem flatL_get0 : ∀ (ls : List LabV) (i : Nat) (l : LabV), ls[i]? = some l → (ls.flatMap LabV.cells)[i * 2]? = some (.int .i64 l.d) := by
  intro ls
  induction ls with
  | nil => intro i l h; simp at h
  | cons m ls ih =>
    intro i l h
    cases i with
    | zero => simp at h; subst h; rfl
    | succ i =>
      have e : (i + 1) * 2 = i * 2 + 1 + 1 := by omega
      rw [e]
      simp only [List.flatMap_cons, LabV.cells, List.cons_append, List.nil_append, List.getElem?_cons_succ]
      exact ih i l (by simpa using h)
theorem flatL_get1 : ∀ (ls : List LabV) (i : Nat) (l : LabV), ls[i]? = some l → (ls.flatMap LabV.cells)[i * 2 + 1]? = some (.slice l.A l.n l.c) := by
  intro ls
  induction ls with
  | nil => intro i l h; simp at h
  | cons m ls ih =>
    intro i l h
    cases i with
    | zero => simp at h; subst h; rfl
    | succ i =>
      have e : (i + 1) * 2 + 1 = i * 2 + 1 + 1 + 1 := by omega
      rw [e]
      simp only [List.flatMap_cons, LabV.cells, List.cons_append, List.nil_append, List.getElem?_cons_succ]
      exact ih i l (by simpa using h)

structure LabsAt (W : World) (g : Nat) (ls : List LabV) : Prop where
  blk : Blk W g 26 (ls.flatMap LabV.cells).toArray
  at_ : ∀ l ∈ ls, LabV.at_ W l
theorem LabV.at_below {w W : World} {l : LabV} (h : l.at_ w) (hb : Below w.heap.size w W) : l.at_ W := (CatsAt.below h hb).more hb.size
theorem LabsAt.below {w W : World} {g : Nat} {ls : List LabV} (h : LabsAt w g ls) (hb : Below w.heap.size w W) : LabsAt W g ls := ⟨h.blk.below hb h.blk.lt, fun l hl => LabV.at_below (h.at_ l hl) hb⟩
theorem LabsAt.cells {W : World} {g : Nat} {ls : List LabV} (h : LabsAt W g ls) {i : Nat} {l : LabV} (hi : ls[i]? = some l) : W.cell? ⟨g, i * 2, none⟩ = some (.int .i64 l.d) ∧ W.cell? ⟨g, i * 2 + 1, none⟩ = some (.slice l.A l.n l.c) := by
  constructor
  · rw [Blk.cell h.blk, List.getElem?_toArray]; exact flatL_get0 ls i l hi
  · rw [Blk.cell h.blk, List.getElem?_toArray]; exact flatL_get1 ls i l hi

theorem told_call {P : Program} {f : FuncId} {args : Array Value} {W : World} {v : Value} (h : Calls P f args W fun e w' => e = .returned v ∧ Below W.heap.size W w') :
    Calls P f args W fun e W'' => ∃ u, e = .returned u ∧ But nil_ W W'' ∧ (Leaves.val v).ok W'' u ∧ True :=
  h.mono fun e w' ⟨he, hb⟩ => ⟨v, he, (But.refl _ _).below hb, rfl, trivial⟩

set_option maxHeartbeats 2000000 in
set_option maxRecDepth 100000 in
theorem rises111 (w : World) (g : Nat) (ls : List LabV) (h : LabsAt w g ls) (hn : ls.length ≤ 1000) (h1 : 1 ≤ ls.length) :
    Calls Try.prog 111 #[.slice (some ⟨g, 0, none⟩) ls.length ls.length] w fun e w' => e = .returned (.bool (risesB ls)) ∧ Below w.heap.size w w' := by
  have mixed : Try.prog.follows .mixedOrders = true := by kernel_rfl
  have H := hid h
  clear h
  obtain ⟨n, hln⟩ : ∃ n, ls.length = n := ⟨_, rfl⟩
  rw [hln]
  rw [hln] at hn h1
  have HL := hid hln
  clear hln
  go_enter Try.func111, Try.ntmps111
  go_wp2_with fail
  go_loopw [3] (fun vi wr => ∃ k : Nat, 1 ≤ k ∧ k ≤ n ∧ vi = .int .i64 k ∧ Hid (Below w.heap.size w wr) ∧ Hid (∀ j, j + 1 < k → leqV (ls.getD j zeroV) (ls.getD (j + 1) zeroV) = true)) (fun vi _ => n - (intOf vi).toNat)
  case atStart => exact ⟨1, by omega, h1, rfl, Below.refl _ _, fun j hj => by omega⟩
  case round =>
    obtain ⟨k, hk1, hk, rfl, BW, AL⟩ := hrel
    by_cases hlt : k < n
    · have hltz : (k : Int) < (n : Int) := by omega
      obtain ⟨m, rfl⟩ : ∃ m, k = m + 1 := ⟨k - 1, by omega⟩
      obtain ⟨x, hx⟩ : ∃ x, ls[m]? = some x := ⟨_, List.getElem?_eq_getElem (by rw [HL.out]; omega)⟩
      obtain ⟨y, hy⟩ : ∃ y, ls[m + 1]? = some y := ⟨_, List.getElem?_eq_getElem (by rw [HL.out]; omega)⟩
      have HX := hid hx
      have HY := hid hy
      have HF : Hid (∀ W, Since wr W → (W.cell? ⟨g, m * 2, none⟩ = some (.int .i64 x.d) ∧ W.cell? ⟨g, m * 2 + 1, none⟩ = some (.slice x.A x.n x.c)) ∧ (W.cell? ⟨g, (m + 1) * 2, none⟩ = some (.int .i64 y.d) ∧ W.cell? ⟨g, (m + 1) * 2 + 1, none⟩ = some (.slice y.A y.n y.c))) := by
        intro W hW
        have hl := H.out.below (BW.out.trans (since_below hW BW.out.size))
        exact ⟨hl.cells HX.out, hl.cells HY.out⟩
      have HC : Hid (∀ W, Since wr W → Calls Try.prog 40 #[.agg #[.int .i64 x.d, .slice x.A x.n x.c], .agg #[.int .i64 y.d, .slice y.A y.n y.c]] W fun e w' => e = .returned (.bool (leqV x y)) ∧ Below W.heap.size W w') := by
        intro W hW
        have hl := H.out.below (BW.out.trans (since_below hW BW.out.size))
        exact leq40 W x.d y.d x.A y.A x.n x.c y.n y.c x.cs y.cs (hl.at_ x (List.mem_of_getElem? HX.out)) (hl.at_ y (List.mem_of_getElem? HY.out))
      have hm0 : (0 : Int) ≤ (m : Int) := by omega
      have hm1 : (m : Int) < (n : Int) := by omega
      have hm2 : (0 : Int) ≤ (m : Int) + 1 := by omega
      have hm3 : (m : Int) + 1 < (n : Int) := by omega
      have em : IntKind.i64.wrap (m : Int) = (m : Int) := by simp [IntKind.wrap_i64]; omega
      have em2 : ((m : Int) + 1).toNat = m + 1 := by omega
      clear hx hy
      go_wp2_with fail
      refine wp_region_told 11 nil_ mixed (by kernel_rfl) ?_
      simp only [List.take_succ_cons, List.take_zero, List.drop_succ_cons, List.drop_zero]
      repeat (refine told_val (v := ?_) (fun _ => rfl) (fun vs W hW => ?_) ?_; rotate_left; (focus (have hf := HF.out W hW; clear hW; go_simp; exact loose_val)); simp only [Act.put, List.setIfInBounds_toArray, List.set_cons_zero, List.set_cons_succ, List.nil_append, List.cons_append])
      refine told_val (v := .bool (leqV x y)) (fun _ => rfl) (fun vs W hW => ?_) ?_
      · go_simp
        exact loose_call (HC.out W hW)
      simp only [Act.put, List.setIfInBounds_toArray, List.set_cons_zero, List.set_cons_succ, List.nil_append, List.cons_append]
      repeat (refine told_val (v := ?_) (fun _ => rfl) (fun vs W hW => ?_) ?_; rotate_left; (focus (have hf := HF.out W hW; clear hW; go_simp; exact loose_val)); simp only [Act.put, List.setIfInBounds_toArray, List.set_cons_zero, List.set_cons_succ, List.nil_append, List.cons_append])
      refine told_nil ?_
      intro vs W hW hok hap
      clear hok hap
      have BW2 := hid (BW.out.trans (since_below hW BW.out.size))
      have HQ : Hid (leqV (ls.getD m zeroV) (ls.getD (m + 1) zeroV) = leqV x y) := by
        show (_ : Bool) = _
        simp only [List.getD_eq_getElem?_getD, HX.out, HY.out, Option.getD_some]
      clear hW HC HF em em2
      generalize leqV x y = b at *
      cases b with
      | true =>
        go_wp2_with fail
        go_roundw
        case measure => simp [intOf] <;> omega
        case rel =>
          refine ⟨m + 1 + 1, by omega, by omega, by go_num, BW2.out, (show Hid _ from fun j hj => ?_)⟩
          by_cases e : j = m
          · subst e; rw [HQ.out]
          · exact AL.out j (by omega)
      | false =>
        have HE : Hid (risesB ls = false) := by
          show risesB ls = false
          unfold risesB
          rw [List.all_eq_false]
          exact ⟨m, List.mem_range.2 (by rw [HL.out]; omega), by rw [HQ.out]; exact Bool.false_ne_true⟩
        go_wp2_with fail
        go_ret
        exact ⟨by rw [HE.out]; rfl, BW2.out⟩
    · have hltz : ¬ (k : Int) < (n : Int) := by omega
      have HE : Hid (risesB ls = true) := by
        show risesB ls = true
        unfold risesB
        rw [List.all_eq_true]
        intro j hj
        have := List.mem_range.1 hj
        rw [HL.out] at this
        exact AL.out j (by omega)
      go_wp2_with fail
      go_ret
      exact ⟨by rw [HE.out]; rfl, BW.out⟩
end Go.Proofs.Ytndohmimcbmhdaa
