/- The document's Exact; slices.Equal over categories. -/
import Derived.Test.YtndohmimcbmhdaaMz12
import Derived.Test.YtndohmimcbmhdaaMz11
set_option linter.unusedVariables false
set_option linter.unusedSimpArgs false
namespace Go.Proofs.Ytndohmimcbmhdaa
open Go.RowKit Go.Sort

theorem below_drewN' {B : Nat} {a w : World} (h : Below B a w) (n : Nat) : Below B a (w.drewN n) := ⟨h.os, h.tape, h.output, h.size, h.block⟩
def exactB (d : Int) (cs : List (Int × Int)) (d' : Int) (cs' : List (Int × Int)) : Bool := decide (d = d' ∧ cs = cs')
theorem CatsAt.at2_ {w : World} {B : Nat} {A : Option Addr} {n c : Nat} {cs : List (Int × Int)} (h : CatsAt w B A n c cs) {k : Nat} (hk : k < n) : ∃ b off i v, A = some ⟨b, off, none⟩ ∧ b < B ∧ cs[k]? = some (i, v) ∧ w.cell? ⟨b, off + k * 2, none⟩ = some (.int .u64 i) ∧ w.cell? ⟨b, off + k * 2 + 1, none⟩ = some (.int .i64 v) := by
  obtain ⟨b, off, x, e, hb, hx, c0, c1⟩ := h.at_ hk
  exact ⟨b, off, x.1, x.2, e, hb, hx, c0, c1⟩
theorem same_to {cs cs' : List (Int × Int)} {n : Nat} (hl : cs.length = n) (hl' : cs'.length = n) (h : ∀ j, j < n → cs[j]? = cs'[j]?) : cs = cs' := by
  apply List.ext_getElem?
  intro i
  by_cases hi : i < n
  · exact h i hi
  · rw [List.getElem?_eq_none (by omega), List.getElem?_eq_none (by omega)]
theorem differ_at {cs cs' : List (Int × Int)} {k : Nat} {x x' : Int × Int} (hx : cs[k]? = some x) (hx' : cs'[k]? = some x') (hne : ¬ (x.1 = x'.1 ∧ x.2 = x'.2)) : cs ≠ cs' := by
  rintro rfl
  rw [hx] at hx'
  injection hx' with e
  subst e
  exact hne ⟨rfl, rfl⟩

set_option maxHeartbeats 2000000 in
set_option maxRecDepth 100000 in
theorem exact36 (w : World) (d d' : Int) (A A' : Option Addr) (n c n' c' : Nat) (cs cs' : List (Int × Int)) (h : CatsAt w w.heap.size A n c cs) (h' : CatsAt w w.heap.size A' n' c' cs') :
    Calls Try.prog 36 #[.agg #[.int .i64 d, .slice A n c], .agg #[.int .i64 d', .slice A' n' c']] w fun e w' => e = .returned (.bool (exactB d cs d' cs')) ∧ Below w.heap.size w w' := by
  have mixed : Try.prog.follows .mixedOrders = true := by kernel_rfl
  have hm : n ≤ 9223372036854775807 := by have := h.cap; have := h.max; unfold maxLen at this; omega
  obtain ⟨q1, q2, q3⟩ := two_blk w #[.int .i64 d, .slice A n c] #[.int .i64 d', .slice A' n' c'] 26 26
  have HB := hid q1
  have HP1 := hid q2
  have HP2 := hid q3
  have H := hid ((h.below q1).more q1.size)
  have H' := hid ((h'.below q1).more q1.size)
  have HL := hid h.len
  have HL' := hid h'.len
  clear h h' q1 q2 q3
  by_cases hd : d = d'
  · subst hd
    have hdd : (d != d) = false := by simp
    by_cases hnn : n = n'
    · subst hnn
      have hnn2 : ((n : Int) != (n : Int)) = false := by simp
      have hnn3 : (n != n) = false := by simp
      go_enter Try.func36, Try.ntmps36
      go_wp2_with fail
      generalize (w.alloc (.cells #[.int .i64 d, .slice A n c] 26)).alloc (.cells #[.int .i64 d, .slice A' n c'] 26) = wa at *
      go_loopw [23] (fun vi wr => ∃ k : Nat, k ≤ n ∧ vi = .int .i64 k ∧ Hid (Below wa.heap.size wa wr) ∧ Hid (∀ j, j < k → cs[j]? = cs'[j]?)) (fun vi _ => n - (intOf vi).toNat)
      case atStart => exact ⟨0, Nat.zero_le _, rfl, Below.refl _ _, fun j hj => absurd hj (by omega)⟩
      case round =>
        obtain ⟨k, hk, rfl, BW, EQ⟩ := hrel
        by_cases hlt : k < n
        · have hltz : (k : Int) < (n : Int) := by omega
          obtain ⟨b, off, i, v, rfl, hbB, hx, c0, c1⟩ := (H.out.below BW.out).at2_ hlt
          obtain ⟨b', off', i', v', rfl, hbB', hx', c0', c1'⟩ := (H'.out.below BW.out).at2_ hlt
          have HX := hid hx
          have HX' := hid hx'
          clear hx hx'
          have r1 := HP1.out.below BW.out HP1.out.lt
          have r2 := HP2.out.below BW.out HP2.out.lt
          have f2 : wr.cell? ⟨w.heap.size, 1, none⟩ = some (.slice (some ⟨b, off, none⟩) n c) := (Blk.cell r1 1).trans rfl
          have f4 : wr.cell? ⟨w.heap.size + 1, 1, none⟩ = some (.slice (some ⟨b', off', none⟩) n c') := (Blk.cell r2 1).trans rfl
          clear r1 r2
          by_cases hi : i = i'
          · subst hi
            by_cases hv : v = v'
            · subst hv
              go_wp2_with fail
              go_quiet (fail)
              go_wp2_with fail
              go_roundw
              case measure => simp [intOf] <;> omega
              case rel =>
                refine ⟨k + 1, by omega, by go_num, below_drewN' BW.out _, (show Hid _ from fun j hj => ?_)⟩
                by_cases e : j = k
                · subst e; rw [HX.out, HX'.out]
                · exact EQ.out j (by omega)
            · have HE : Hid (exactB d cs d cs' = false) := decide_eq_false fun h => differ_at HX.out HX'.out (fun e => hv e.2) h.2
              have hb : (v == v') = false := by simpa using hv
              go_wp2_with fail
              go_quiet (fail)
              go_wp2_with fail
              go_ret
              exact ⟨by rw [HE.out]; rfl, HB.out.trans ((below_drewN' BW.out _).mono HB.out.size)⟩
          · have HE : Hid (exactB d cs d cs' = false) := decide_eq_false fun h => differ_at HX.out HX'.out (fun e => hi e.1) h.2
            have hb : (i == i') = false := by simpa using hi
            go_wp2_with fail
            go_quiet (fail)
            go_wp2_with fail
            go_ret
            exact ⟨by rw [HE.out]; rfl, HB.out.trans ((below_drewN' BW.out _).mono HB.out.size)⟩
        · have hltz : ¬ (k : Int) < (n : Int) := by omega
          have HE : Hid (exactB d cs d cs' = true) := decide_eq_true ⟨rfl, same_to HL.out HL'.out fun j hj => EQ.out j (by omega)⟩
          go_wp2_with fail
          go_ret
          exact ⟨by rw [HE.out]; rfl, HB.out.trans (BW.out.mono HB.out.size)⟩
    · have HE : Hid (exactB d cs d cs' = false) := decide_eq_false fun h => hnn (by rw [← HL.out, ← HL'.out, h.2])
      have hnz : ¬ (n : Int) = (n' : Int) := by omega
      go_enter Try.func36, Try.ntmps36
      go_wp2_with fail
      go_ret
      exact ⟨by rw [HE.out]; rfl, HB.out⟩
  · have HE : Hid (exactB d cs d' cs' = false) := decide_eq_false fun h => hd h.1
    go_enter Try.func36, Try.ntmps36
    go_wp2_with fail
    go_ret
    exact ⟨by rw [HE.out]; rfl, HB.out⟩
end Go.Proofs.Ytndohmimcbmhdaa

/- slices.Equal over categories; what Right asks of each. -/
set_option linter.unusedVariables false
set_option linter.unusedSimpArgs false
namespace Go.Proofs.Ytndohmimcbmhdaa
open Go.RowKit Go.Sort

def eqB (cs cs' : List (Int × Int)) : Bool := decide (cs = cs')
set_option maxHeartbeats 2000000 in
set_option maxRecDepth 100000 in
theorem equal108 (w : World) (A A' : Option Addr) (n c n' c' : Nat) (cs cs' : List (Int × Int)) (h : CatsAt w w.heap.size A n c cs) (h' : CatsAt w w.heap.size A' n' c' cs') :
    Calls Try.prog 108 #[.slice A n c, .slice A' n' c'] w fun e w' => e = .returned (.bool (eqB cs cs')) ∧ Below w.heap.size w w' := by
  have mixed : Try.prog.follows .mixedOrders = true := by kernel_rfl
  have hm : n ≤ 9223372036854775807 := by have := h.cap; have := h.max; unfold maxLen at this; omega
  have H := hid h
  have H' := hid h'
  have HL := hid h.len
  have HL' := hid h'.len
  clear h h'
  by_cases hnn : n = n'
  · subst hnn
    have hnn2 : ((n : Int) != (n : Int)) = false := by simp
    have hnn3 : (n != n) = false := by simp
    go_enter Try.func108, Try.ntmps108
    go_wp2_with fail
    go_loopw [13] (fun vi wr => ∃ k : Nat, k ≤ n ∧ vi = .int .i64 k ∧ Hid (Below w.heap.size w wr) ∧ Hid (∀ j, j < k → cs[j]? = cs'[j]?)) (fun vi _ => n - (intOf vi).toNat)
    case atStart => exact ⟨0, Nat.zero_le _, rfl, Below.refl _ _, fun j hj => absurd hj (by omega)⟩
    case round =>
      obtain ⟨k, hk, rfl, BW, EQ⟩ := hrel
      by_cases hlt : k < n
      · have hltz : (k : Int) < (n : Int) := by omega
        obtain ⟨b, off, i, v, rfl, hbB, hx, c0, c1⟩ := (H.out.below BW.out).at2_ hlt
        obtain ⟨b', off', i', v', rfl, hbB', hx', c0', c1'⟩ := (H'.out.below BW.out).at2_ hlt
        have HX := hid hx
        have HX' := hid hx'
        clear hx hx'
        by_cases hi : i = i'
        · subst hi
          by_cases hv : v = v'
          · subst hv
            go_wp2_with fail
            go_quiet (fail)
            go_wp2_with fail
            go_roundw
            case measure => simp [intOf] <;> omega
            case rel =>
              refine ⟨k + 1, by omega, by go_num, below_drewN' BW.out _, (show Hid _ from fun j hj => ?_)⟩
              by_cases e : j = k
              · subst e; rw [HX.out, HX'.out]
              · exact EQ.out j (by omega)
          · have HE : Hid (eqB cs cs' = false) := decide_eq_false fun h => differ_at HX.out HX'.out (fun e => hv e.2) h
            have hb : (v == v') = false := by simpa using hv
            go_wp2_with fail
            go_quiet (fail)
            go_wp2_with fail
            go_ret
            exact ⟨by rw [HE.out]; rfl, below_drewN' BW.out _⟩
        · have HE : Hid (eqB cs cs' = false) := decide_eq_false fun h => differ_at HX.out HX'.out (fun e => hi e.1) h
          have hb : (i == i') = false := by simpa using hi
          go_wp2_with fail
          go_quiet (fail)
          go_wp2_with fail
          go_ret
          exact ⟨by rw [HE.out]; rfl, below_drewN' BW.out _⟩
      · have hltz : ¬ (k : Int) < (n : Int) := by omega
        have HE : Hid (eqB cs cs' = true) := decide_eq_true (same_to HL.out HL'.out fun j hj => EQ.out j (by omega))
        go_wp2_with fail
        go_ret
        exact ⟨by rw [HE.out]; rfl, BW.out⟩
  · have HE : Hid (eqB cs cs' = false) := decide_eq_false fun h => hnn (by rw [← HL.out, ← HL'.out, h])
    have hnz : ¬ (n : Int) = (n' : Int) := by omega
    go_enter Try.func108, Try.ntmps108
    go_wp2_with fail
    go_ret
    exact ⟨by rw [HE.out]; rfl, Below.refl _ _⟩

/-- What may not be in a right label. -/
def oddC (x : Int × Int) : Bool := decide (x.1 < 1 ∨ x.1 > 2305843009213693951 ∨ x.2 < 0 ∨ x.2 > 4)
set_option maxHeartbeats 1000000 in
theorem odd109 (x : Int × Int) (W : World) : Calls Try.prog 109 #[.agg #[.int .u64 x.1, .int .i64 x.2]] W fun e w' => e = .returned (.bool (oddC x)) ∧ Below W.heap.size W w' := by
  obtain ⟨i, v⟩ := x
  show Calls Try.prog 109 #[.agg #[.int .u64 i, .int .i64 v]] W _
  have HB := hid ((Below.refl W.heap.size W).alloc (Nat.le_refl _) (.cells #[.int .u64 i, .int .i64 v] 32))
  by_cases h1 : i < 1
  · have HO : Hid (oddC (i, v) = true) := decide_eq_true (.inl h1)
    go_enter Try.func109, Try.ntmps109
    go_wp2_with fail
    go_ret
    exact ⟨by rw [HO.out]; rfl, HB.out⟩
  · by_cases h2 : 2305843009213693951 < i
    · have HO : Hid (oddC (i, v) = true) := decide_eq_true (.inr (.inl h2))
      go_enter Try.func109, Try.ntmps109
      go_wp2_with fail
      go_ret
      exact ⟨by rw [HO.out]; rfl, HB.out⟩
    · by_cases h3 : v < 0
      · have HO : Hid (oddC (i, v) = true) := decide_eq_true (.inr (.inr (.inl h3)))
        go_enter Try.func109, Try.ntmps109
        go_wp2_with fail
        go_ret
        exact ⟨by rw [HO.out]; rfl, HB.out⟩
      · by_cases h4 : 4 < v
        · have HO : Hid (oddC (i, v) = true) := decide_eq_true (.inr (.inr (.inr h4)))
          go_enter Try.func109, Try.ntmps109
          go_wp2_with fail
          go_ret
          exact ⟨by rw [HO.out]; rfl, HB.out⟩
        · have HO : Hid (oddC (i, v) = false) := decide_eq_false (by simp only; omega)
          go_enter Try.func109, Try.ntmps109
          go_wp2_with fail
          go_ret
          exact ⟨by rw [HO.out]; rfl, HB.out⟩
theorem eg109 : ∀ args w, (callFunc 109 args).run Try.prog w = .ok (.enter 109 args) w := fun args w => by
  first | kernel_rfl | (simp [callFunc]; done)
end Go.Proofs.Ytndohmimcbmhdaa

/- flow.rises. -/
set_option linter.unusedVariables false
set_option linter.unusedSimpArgs false
namespace Go.Proofs.Ytndohmimcbmhdaa
open Go.RowKit Go.Sort

/-- A label as it lies in memory, and its categories. -/
structure LabV where
  d : Int
  A : Option Addr
  n : Nat
  c : Nat
  cs : List (Int × Int)
def LabV.cells (l : LabV) : List Value := [.int .i64 l.d, .slice l.A l.n l.c]
def LabV.at_ (W : World) (l : LabV) : Prop := CatsAt W W.heap.size l.A l.n l.c l.cs
def leqV (a b : LabV) : Bool := leqB a.d a.cs b.d b.cs
def zeroV : LabV := ⟨0, none, 0, 0, []⟩
def risesB (ls : List LabV) : Bool := (List.range (ls.length - 1)).all fun j => leqV (ls.getD j zeroV) (ls.getD (j + 1) zeroV)

theorem flatL_get0 : ∀ (ls : List LabV) (i : Nat) (l : LabV), ls[i]? = some l → (ls.flatMap LabV.cells)[i * 2]? = some (.int .i64 l.d) := by
  intro ls
  induction ls with
  | nil => intro i l h; simp at h
  | cons m ls ih =>
    intro i l h
    cases i with
    | zero => simp at h; subst h; rfl
    | succ i =>
      have e : (i + 1) * 2 = i * 2 + 1 + 1 := by omega
      rw [e]
      simp only [List.flatMap_cons, LabV.cells, List.cons_append, List.nil_append, List.getElem?_cons_succ]
      exact ih i l (by simpa using h)
theorem flatL_get1 : ∀ (ls : List LabV) (i : Nat) (l : LabV), ls[i]? = some l → (ls.flatMap LabV.cells)[i * 2 + 1]? = some (.slice l.A l.n l.c) := by
  intro ls
  induction ls with
  | nil => intro i l h; simp at h
  | cons m ls ih =>
    intro i l h
    cases i with
    | zero => simp at h; subst h; rfl
    | succ i =>
      have e : (i + 1) * 2 + 1 = i * 2 + 1 + 1 + 1 := by omega
      rw [e]
      simp only [List.flatMap_cons, LabV.cells, List.cons_append, List.nil_append, List.getElem?_cons_succ]
      exact ih i l (by simpa using h)

structure LabsAt (W : World) (g : Nat) (ls : List LabV) : Prop where
  blk : Blk W g 26 (ls.flatMap LabV.cells).toArray
  at_ : ∀ l ∈ ls, LabV.at_ W l
theorem LabV.at_below {w W : World} {l : LabV} (h : l.at_ w) (hb : Below w.heap.size w W) : l.at_ W := (CatsAt.below h hb).more hb.size
theorem LabsAt.below {w W : World} {g : Nat} {ls : List LabV} (h : LabsAt w g ls) (hb : Below w.heap.size w W) : LabsAt W g ls := ⟨h.blk.below hb h.blk.lt, fun l hl => LabV.at_below (h.at_ l hl) hb⟩
theorem LabsAt.cells {W : World} {g : Nat} {ls : List LabV} (h : LabsAt W g ls) {i : Nat} {l : LabV} (hi : ls[i]? = some l) : W.cell? ⟨g, i * 2, none⟩ = some (.int .i64 l.d) ∧ W.cell? ⟨g, i * 2 + 1, none⟩ = some (.slice l.A l.n l.c) := by
  constructor
  · rw [Blk.cell h.blk, List.getElem?_toArray]; exact flatL_get0 ls i l hi
  · rw [Blk.cell h.blk, List.getElem?_toArray]; exact flatL_get1 ls i l hi

theorem told_call {P : Program} {f : FuncId} {args : Array Value} {W : World} {v : Value} (h : Calls P f args W fun e w' => e = .returned v ∧ Below W.heap.size W w') :
    Calls P f args W fun e W'' => ∃ u, e = .returned u ∧ But nil_ W W'' ∧ (Leaves.val v).ok W'' u ∧ True :=
  h.mono fun e w' ⟨he, hb⟩ => ⟨v, he, (But.refl _ _).below hb, rfl, trivial⟩

set_option maxHeartbeats 2000000 in
set_option maxRecDepth 100000 in
theorem rises111 (w : World) (g : Nat) (ls : List LabV) (h : LabsAt w g ls) (hn : ls.length ≤ 1000) (h1 : 1 ≤ ls.length) :
    Calls Try.prog 111 #[.slice (some ⟨g, 0, none⟩) ls.length ls.length] w fun e w' => e = .returned (.bool (risesB ls)) ∧ Below w.heap.size w w' := by
  have mixed : Try.prog.follows .mixedOrders = true := by kernel_rfl
  have H := hid h
  clear h
  obtain ⟨n, hln⟩ : ∃ n, ls.length = n := ⟨_, rfl⟩
  rw [hln]
  rw [hln] at hn h1
  have HL := hid hln
  clear hln
  go_enter Try.func111, Try.ntmps111
  go_wp2_with fail
  go_loopw [3] (fun vi wr => ∃ k : Nat, 1 ≤ k ∧ k ≤ n ∧ vi = .int .i64 k ∧ Hid (Below w.heap.size w wr) ∧ Hid (∀ j, j + 1 < k → leqV (ls.getD j zeroV) (ls.getD (j + 1) zeroV) = true)) (fun vi _ => n - (intOf vi).toNat)
  case atStart => exact ⟨1, by omega, h1, rfl, Below.refl _ _, fun j hj => by omega⟩
  case round =>
    obtain ⟨k, hk1, hk, rfl, BW, AL⟩ := hrel
    by_cases hlt : k < n
    · have hltz : (k : Int) < (n : Int) := by omega
      obtain ⟨m, rfl⟩ : ∃ m, k = m + 1 := ⟨k - 1, by omega⟩
      obtain ⟨x, hx⟩ : ∃ x, ls[m]? = some x := ⟨_, List.getElem?_eq_getElem (by rw [HL.out]; omega)⟩
      obtain ⟨y, hy⟩ : ∃ y, ls[m + 1]? = some y := ⟨_, List.getElem?_eq_getElem (by rw [HL.out]; omega)⟩
      have HX := hid hx
      have HY := hid hy
      have HF : Hid (∀ W, Since wr W → (W.cell? ⟨g, m * 2, none⟩ = some (.int .i64 x.d) ∧ W.cell? ⟨g, m * 2 + 1, none⟩ = some (.slice x.A x.n x.c)) ∧ (W.cell? ⟨g, (m + 1) * 2, none⟩ = some (.int .i64 y.d) ∧ W.cell? ⟨g, (m + 1) * 2 + 1, none⟩ = some (.slice y.A y.n y.c))) := by
        intro W hW
        have hl := H.out.below (BW.out.trans (since_below hW BW.out.size))
        exact ⟨hl.cells HX.out, hl.cells HY.out⟩
      have HC : Hid (∀ W, Since wr W → Calls Try.prog 40 #[.agg #[.int .i64 x.d, .slice x.A x.n x.c], .agg #[.int .i64 y.d, .slice y.A y.n y.c]] W fun e w' => e = .returned (.bool (leqV x y)) ∧ Below W.heap.size W w') := by
        intro W hW
        have hl := H.out.below (BW.out.trans (since_below hW BW.out.size))
        exact leq40 W x.d y.d x.A y.A x.n x.c y.n y.c x.cs y.cs (hl.at_ x (List.mem_of_getElem? HX.out)) (hl.at_ y (List.mem_of_getElem? HY.out))
      have hm0 : (0 : Int) ≤ (m : Int) := by omega
      have hm1 : (m : Int) < (n : Int) := by omega
      have hm2 : (0 : Int) ≤ (m : Int) + 1 := by omega
      have hm3 : (m : Int) + 1 < (n : Int) := by omega
      have em : IntKind.i64.wrap (m : Int) = (m : Int) := by simp [IntKind.wrap_i64]; omega
      have em2 : ((m : Int) + 1).toNat = m + 1 := by omega
      clear hx hy
      go_wp2_with fail
      refine wp_region_told 11 nil_ mixed (by kernel_rfl) ?_
      simp only [List.take_succ_cons, List.take_zero, List.drop_succ_cons, List.drop_zero]
      repeat (refine told_val (v := ?_) (fun _ => rfl) (fun vs W hW => ?_) ?_; rotate_left; (focus (have hf := HF.out W hW; clear hW; go_simp; exact loose_val)); simp only [Act.put, List.setIfInBounds_toArray, List.set_cons_zero, List.set_cons_succ, List.nil_append, List.cons_append])
      refine told_val (v := .bool (leqV x y)) (fun _ => rfl) (fun vs W hW => ?_) ?_
      · go_simp
        exact loose_call (HC.out W hW)
      simp only [Act.put, List.setIfInBounds_toArray, List.set_cons_zero, List.set_cons_succ, List.nil_append, List.cons_append]
      repeat (refine told_val (v := ?_) (fun _ => rfl) (fun vs W hW => ?_) ?_; rotate_left; (focus (have hf := HF.out W hW; clear hW; go_simp; exact loose_val)); simp only [Act.put, List.setIfInBounds_toArray, List.set_cons_zero, List.set_cons_succ, List.nil_append, List.cons_append])
      refine told_nil ?_
      intro vs W hW hok hap
      clear hok hap
      have BW2 := hid (BW.out.trans (since_below hW BW.out.size))
      have HQ : Hid (leqV (ls.getD m zeroV) (ls.getD (m + 1) zeroV) = leqV x y) := by
        show (_ : Bool) = _
        simp only [List.getD_eq_getElem?_getD, HX.out, HY.out, Option.getD_some]
      clear hW HC HF em em2
      generalize leqV x y = b at *
      cases b with
      | true =>
        go_wp2_with fail
        go_roundw
        case measure => simp [intOf] <;> omega
        case rel =>
          refine ⟨m + 1 + 1, by omega, by omega, by go_num, BW2.out, (show Hid _ from fun j hj => ?_)⟩
          by_cases e : j = m
          · subst e; rw [HQ.out]
          · exact AL.out j (by omega)
      | false =>
        have HE : Hid (risesB ls = false) := by
          show risesB ls = false
          unfold risesB
          rw [List.all_eq_false]
          exact ⟨m, List.mem_range.2 (by rw [HL.out]; omega), by rw [HQ.out]; exact Bool.false_ne_true⟩
        go_wp2_with fail
        go_ret
        exact ⟨by rw [HE.out]; rfl, BW2.out⟩
    · have hltz : ¬ (k : Int) < (n : Int) := by omega
      have HE : Hid (risesB ls = true) := by
        show risesB ls = true
        unfold risesB
        rw [List.all_eq_true]
        intro j hj
        have := List.mem_range.1 hj
        rw [HL.out] at this
        exact AL.out j (by omega)
      go_wp2_with fail
      go_ret
      exact ⟨by rw [HE.out]; rfl, BW.out⟩
end Go.Proofs.Ytndohmimcbmhdaa
