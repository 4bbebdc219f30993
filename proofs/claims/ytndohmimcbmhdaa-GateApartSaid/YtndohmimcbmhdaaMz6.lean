/- Texts of this claim, one behind the other. -/
import Derived.Test.YtndohmimcbmhdaaMz5
import Derived.Test.YtndohmimcbmhdaaMz1
import Derived.Test.YtndohmimcbmhdaaMz3
import Derived.BigQuiet
set_option linter.unusedVariables false
set_option linter.unusedSimpArgs false
namespace Go.Proofs.Ytndohmimcbmhdaa
open Go.RowKit Go.Sort

theorem symMerge169 : ∀ N, SymSaid N := by
  intro N
  induction N with
  | zero => intro w g len cap a m b p A B s tl hr hlen hP hA hB h1 h2 sA sB hc hm hN; omega
  | succ N ih =>
    intro w g len cap a m b p A B s tl hr hlen hP hA hB h1 h2 sA sB hc hm hN
    by_cases c1 : m = a + 1
    · obtain ⟨x, rfl⟩ : ∃ x, A = [x] := by
        match A, hA with
        | [], h => simp at h; omega
        | [x], _ => exact ⟨x, rfl⟩
        | x :: y :: r, h => simp at h; omega
      exact symMergeA w g len cap a m b p B s x tl hr hlen hP (by omega) hB sB hc hm
    · by_cases c2 : b = m + 1
      · obtain ⟨y, rfl⟩ : ∃ y, B = [y] := by
          match B, hB with
          | [], h => simp at h; omega
          | [x], _ => exact ⟨x, rfl⟩
          | x :: y :: r, h => simp at h; omega
        refine symMergeB w g len cap a m b p A s y tl (by simpa using hr) (by simpa using hlen) hP hA (by omega) (by omega) sA hc hm
      · exact symMergeC N ih w g len cap a m b p A B s tl hr hlen hP hA hB (by omega) (by omega) sA sB hc hm hN

/-- Sorted by blocks of bs. -/
def Blocks (bs : Nat) (l : List (Int × Int)) : Prop := ∀ i, SortedC ((l.drop (i * bs)).take bs)
/-- .. of whole blocks. -/
def WBlocks (bs : Nat) (l : List (Int × Int)) : Prop := Blocks bs l ∧ ∃ k, l.length = k * bs

theorem SortedC.sub {l r : List (Int × Int)} (h : SortedC r) (hs : l.Sublist r) : SortedC l := List.Pairwise.sublist hs h

theorem blocks_snoc {bs : Nat} {P Y : List (Int × Int)} (hP : WBlocks bs P) (hY : SortedC Y) (hl : Y.length ≤ bs) : Blocks bs (P ++ Y) := by
  obtain ⟨h1, k, hk⟩ := hP
  intro i
  by_cases c : i < k
  · have e : i * bs + bs ≤ P.length := by rw [hk]; have := Nat.mul_le_mul_right bs (show i + 1 ≤ k from c); rw [Nat.add_mul, Nat.one_mul] at this; exact this
    rw [List.drop_append_of_le_length (by omega), List.take_append_of_le_length (by rw [List.length_drop]; omega)]
    exact h1 i
  · refine hY.sub (List.Sublist.trans (List.take_sublist _ _) ?_)
    have e : P.length ≤ i * bs := by rw [hk]; exact Nat.mul_le_mul_right bs (by omega)
    rw [List.drop_append, List.drop_eq_nil_of_le e, List.nil_append]
    exact List.drop_sublist _ _
theorem wblocks_snoc {bs : Nat} {P Y : List (Int × Int)} (hP : WBlocks bs P) (hY : SortedC Y) (hl : Y.length = bs) : WBlocks bs (P ++ Y) :=
  ⟨blocks_snoc hP hY (by omega), by obtain ⟨_, k, hk⟩ := hP; exact ⟨k + 1, by rw [List.length_append, hk, hl, Nat.add_mul, Nat.one_mul]⟩⟩
theorem wblocks_nil (bs : Nat) : WBlocks bs [] := ⟨fun i => by simp; exact sortedC_nil, 0, by simp⟩
theorem Blocks.first {bs : Nat} {l : List (Int × Int)} (h : Blocks bs l) : SortedC (l.take bs) := by have := h 0; simpa using this
theorem Blocks.rest {bs : Nat} {l : List (Int × Int)} (h : Blocks bs l) : Blocks bs (l.drop bs) := fun i => by
  rw [List.drop_drop]
  have := h (i + 1)
  rw [Nat.add_mul, Nat.one_mul, Nat.add_comm] at this
  exact this
theorem Blocks.whole {bs : Nat} {l : List (Int × Int)} (h : Blocks bs l) (hl : l.length ≤ bs) : SortedC l := by
  have := h.first
  rwa [List.take_of_length_le hl] at this

end Go.Proofs.Ytndohmimcbmhdaa

/- The library's insertion sort of categories. -/
set_option linter.unusedVariables false
set_option linter.unusedSimpArgs false
namespace Go.Proofs.Ytndohmimcbmhdaa
open Go.RowKit Go.Sort

/-- Where the outer loop of the insertion sort stands: the first i - a ones are sorted. -/
def InsOuter (w : World) (g a b : Nat) (p X s : List (Int × Int)) (tl : List Value) (i : Nat) (wr : World) : Prop :=
  ∃ Y R, Row wr g (p ++ Y ++ R ++ s) tl ∧ w.grownBy wr (some g) ∧ SortedC Y ∧ Stably (Y ++ R) X ∧ p.length + Y.length = i ∧ Y.length + R.length = X.length
/-- Where its inner loop stands. -/
def InsInner (w : World) (g a b : Nat) (p X s : List (Int × Int)) (tl : List Value) (i j : Nat) (wr : World) : Prop :=
  ∃ Y1 x Y2 R, Row wr g (p ++ Y1 ++ x :: Y2 ++ R ++ s) tl ∧ w.grownBy wr (some g) ∧ SortedC (Y1 ++ Y2) ∧ (∀ y ∈ Y2, x.1 < y.1) ∧ Stably (Y1 ++ Y2 ++ x :: R) X ∧ p.length + Y1.length = j ∧ Y2.length + j = i ∧ Y1.length + 1 + Y2.length + R.length = X.length

/-- Out of the inner loop. -/
theorem ins_out {w wr : World} {g a b : Nat} {p X s : List (Int × Int)} {tl : List Value} {i j : Nat} {Y1 Y2 R : List (Int × Int)} {x : Int × Int}
    (hr : Row wr g (p ++ Y1 ++ x :: Y2 ++ R ++ s) tl) (hg : w.grownBy wr (some g)) (hs : SortedC (Y1 ++ Y2)) (h2 : ∀ y ∈ Y2, x.1 < y.1) (hst : Stably (Y1 ++ Y2 ++ x :: R) X) (hj : p.length + Y1.length = j) (hi : Y2.length + j = i) (hl : Y1.length + 1 + Y2.length + R.length = X.length)
    (h1 : ∀ y ∈ Y1, y.1 ≤ x.1) : InsOuter w g a b p X s tl (i + 1) wr := by
  refine ⟨Y1 ++ x :: Y2, R, by simpa [List.append_assoc] using hr, hg, insert_sorted hs h2 h1, ?_, by simp; omega, by simp; omega⟩
  refine Stably.trans ?_ hst
  have e : Y1 ++ Y2 ++ x :: R = (Y1 ++ Y2 ++ [x]) ++ R := by simp
  rw [e]
  exact Stably.append (insert_stably h2) (Stably.refl _)

set_option maxHeartbeats 2000000 in
theorem insertion168 (w : World) (g len cap a b : Nat) (p X s : List (Int × Int)) (tl : List Value) (hr : Row w g (p ++ X ++ s) tl) (hlen : (p ++ X ++ s).length = len) (hp : p.length = a) (hX : a + X.length = b) (hc : len ≤ cap) (hm : len ≤ 4611686018427387904) :
    Calls Try.prog 168 #[.slice (some ⟨g, 0, none⟩) len cap, .int .i64 a, .int .i64 b, .func (.func 94) #[] #[]] w fun e w' =>
      e = .returned (.tuple #[]) ∧ ∃ Y, Row w' g (p ++ Y ++ s) tl ∧ w.grownBy w' (some g) ∧ SortedC Y ∧ Stably Y X := by
  have hbl : b ≤ len := by simp at hlen; omega
  have hab : a ≤ b := by omega
  have hstart : a < b → Hid (InsOuter w g a b p X s tl (a + 1) w) := by
    intro h
    cases X with
    | nil => simp at hX; omega
    | cons x R => exact ⟨[x], R, by simpa using hr, only_refl _ _, sortedC_one x, Stably.refl _, by simp [hp], by simp; omega⟩
  have hempty : ¬ a < b → Hid (X = []) := by
    intro h
    have : X.length = 0 := by omega
    exact List.eq_nil_of_length_eq_zero this
  have HL := hid hlen
  have HP := hid hp
  have HX := hid hX
  have HR := hid hr
  clear hlen hp hX hr
  by_cases hlt0 : a < b
  · have HS := hstart hlt0
    clear hstart hempty HR
    go_enter Try.func168, Try.ntmps168
    go_wp2_with fail
    go_loopw [8] (fun vi wr => ∃ i : Nat, vi = .int .i64 i ∧ a < i ∧ i ≤ b ∧ Hid (InsOuter w g a b p X s tl i wr)) (fun vi _ => b + 1 - (intOf vi).toNat)
    case atStart => exact ⟨a + 1, by go_num, by omega, by omega, HS⟩
    case round =>
      obtain ⟨i, rfl, hai, hib, HO⟩ := hrel
      by_cases hlt : i < b
      · have hltz : (i : Int) < (b : Int) := by omega
        go_wp2_with fail
        go_loopw [9] (fun vj wr2 => ∃ j : Nat, vj = .int .i64 j ∧ a ≤ j ∧ j ≤ i ∧ Hid (InsInner w g a b p X s tl i j wr2)) (fun vj _ => (intOf vj).toNat)
        case atStart =>
          obtain ⟨Y, R, h1, h2, h3, h4, h5, h6⟩ := HO.out
          have hX := HX.out
          have hP := HP.out
          cases R with
          | nil => simp at h6; omega
          | cons x R => exact ⟨i, rfl, by omega, Nat.le_refl _, (show Hid _ from ⟨Y, x, [], R, by simpa using h1, h2, by simpa using h3, (fun _ hh => by cases hh), by simpa using h4, h5, by simp, by simp at h6 ⊢; omega⟩)⟩
        case round =>
          obtain ⟨j, rfl, haj, hji, HI⟩ := hrel
          obtain ⟨Y1, x, Y2, R, i1, i2, i3, i4, i5, i6, i7, i8⟩ := HI.out
          have hX := HX.out
          have hP := HP.out
          by_cases hja : a < j
          · obtain ⟨jp, rfl⟩ : ∃ jp, j = jp + 1 := ⟨j - 1, by omega⟩
            obtain ⟨Y1', y, rfl⟩ : ∃ Y1' y, Y1 = Y1' ++ [y] := by
              rcases List.eq_nil_or_concat Y1 with h | ⟨l, c, h⟩
              · subst h; simp at i6; omega
              · exact ⟨l, c, by simpa using h⟩
            have hjpl : (p ++ Y1').length = jp := by simp at i6 ⊢; omega
            have hlenz := HL.out
            simp at hlenz i8 i6
            have el : p ++ (Y1' ++ [y]) ++ x :: Y2 ++ R ++ s = (p ++ Y1') ++ y :: x :: (Y2 ++ R ++ s) := by simp
            rw [el] at i1
            have e0 : ((p ++ Y1') ++ y :: x :: (Y2 ++ R ++ s))[jp]? = some y := by rw [← hjpl]; exact get_at
            have e1 : ((p ++ Y1') ++ y :: x :: (Y2 ++ R ++ s))[jp + 1]? = some x := by rw [← hjpl]; exact get_at1
            have hjl : jp + 1 < len := by omega
            have c0 : ∀ n os, (grow (wr.drewN n) os).cell? ⟨g, jp * 2, none⟩ = some (.int .u64 y.1) := fun n os => (i1.grow n os).cell0 e0
            have c1 : ∀ n os, (grow (wr.drewN n) os).cell? ⟨g, jp * 2 + 1, none⟩ = some (.int .i64 y.2) := fun n os => (i1.grow n os).cell1 e0
            have c2 : ∀ n os, (grow (wr.drewN n) os).cell? ⟨g, (jp + 1) * 2, none⟩ = some (.int .u64 x.1) := fun n os => (i1.grow n os).cell0 e1
            have c3 : ∀ n os, (grow (wr.drewN n) os).cell? ⟨g, (jp + 1) * 2 + 1, none⟩ = some (.int .i64 x.2) := fun n os => (i1.grow n os).cell1 e1
            have hjaz : (a : Int) < (jp : Int) + 1 := by omega
            have hjz1 : (jp : Int) + 1 < (len : Int) := by omega
            have hjz2 : (0 : Int) ≤ (jp : Int) + 1 := by omega
            have hwp : IntKind.i64.wrap (jp : Int) = (jp : Int) := by rw [IntKind.wrap_i64]; omega
            have hjz3 : (jp : Int) < (len : Int) := by omega
            have e2 : ((jp : Int) + 1).toNat = jp + 1 := by omega
            have I1 := hid i1
            have I2 := hid i2
            have I3 := hid i3
            have I4 := hid i4
            have I5 := hid i5
            have E0 := hid e0
            have E1 := hid e1
            have JP := hid hjpl
            have I6 := hid i6
            have I7 := hid i7
            have I8 := hid i8
            have mixed : Try.prog.follows .mixedOrders = true := by kernel_rfl
            clear i1 i2 i3 i4 i5 i6 i7 i8 e0 e1 hjpl el hX hP hlenz
            by_cases hless : x.1 < y.1
            · have hcmp : cmpI x.1 y.1 < 0 := cmpI_neg.2 hless
              go_wp2_with fail
              go_quiet_grown (first | (go_at_call 94; refine Calls.grown_of (cmp94 x y _)))
              go_wp2_with fail
              have RQ := I1.out.grow nq osq
              have GQ := only_below I2.out (grown_below nq osq)
              obtain ⟨z, ⟨d0, d1, d2, d3⟩, ⟨f0, f1⟩, ⟨d4, d5, f2, f3⟩, RZ, GZ⟩ := RQ.swapFacts GQ E1.out E0.out
              clear RQ GQ c0 c1 c2 c3
              generalize grow (wr.drewN nq) osq = wq at *
              go_region
              all_goals
                go_wp2_with fail
                go_roundw
                case measure => simp [intOf] <;> omega
                case rel =>
                  refine ⟨jp, by first | rfl | go_num, by omega, by omega, (show Hid _ from ⟨Y1', x, y :: Y2, R, ?_, only_drew GZ.out, by simpa using I3.out, ?_, by simpa using I5.out, by have := JP.out; simp at this; exact this, by have := I7.out; simp; omega, by have := I8.out; simp; omega⟩)⟩
                  · have h := RZ.out.drew
                    have e := swap_at (A := p ++ Y1') (B := Y2 ++ R ++ s) (x := x) (y := y)
                    rw [JP.out] at e
                    rw [e] at h
                    simpa using h
                  · intro c hc
                    rcases List.mem_cons.1 hc with rfl | hc
                    · exact hless
                    · exact I4.out c hc
            · have hcmp : ¬ cmpI x.1 y.1 < 0 := fun h => hless (cmpI_neg.1 h)
              go_wp2_with fail
              go_quiet_grown (first | (go_at_call 94; refine Calls.grown_of (cmp94 x y _)))
              go_wp2_with fail
              have RQ := I1.out.grow nq osq
              have GQ := only_below I2.out (grown_below nq osq)
              go_roundw
              case measure => simp [intOf] <;> omega
              case rel =>
                refine ⟨i + 1, by go_num, by omega, by omega, (show Hid _ from ins_out (Y1 := Y1' ++ [y]) (x := x) (Y2 := Y2) (R := R) (j := jp + 1) (by simpa using RQ) GQ I3.out I4.out I5.out (by have := I6.out; simp; omega) I7.out (by have := I8.out; simp; omega) ?_)⟩
                intro c hc
                rcases List.mem_append.1 hc with hc | hc
                · have := I3.out.left.cross c hc y (by simp); omega
                · simp at hc; subst hc; omega
          · have hd : decide ((j : Int) > (a : Int)) = false := decide_eq_false (by omega)
            have hjaz' : ¬ (a : Int) < (j : Int) := by omega
            have I1 := hid i1
            have I2 := hid i2
            have I3 := hid i3
            have I4 := hid i4
            have I5 := hid i5
            have I6 := hid i6
            have I7 := hid i7
            have I8 := hid i8
            have hy : Hid (Y1 = []) := by show Y1 = []; exact List.eq_nil_of_length_eq_zero (by omega)
            have mixed : Try.prog.follows .mixedOrders = true := by kernel_rfl
            clear i1 i2 i3 i4 i5 i6 i7 i8 hX hP
            go_wp2_with fail
            go_quiet (fail)
            go_wp2_with fail
            have RQ := I1.out.drewN nq
            have GQ := only_drewN I2.out nq
            go_roundw
            case measure => simp [intOf] <;> omega
            case rel =>
              exact ⟨i + 1, by go_num, by omega, by omega, (show Hid _ from ins_out (Y1 := Y1) (x := x) (Y2 := Y2) (R := R) (j := j) RQ GQ I3.out I4.out I5.out I6.out I7.out I8.out (by rw [hy.out]; intro c hc; cases hc))⟩
      · have hltz : ¬ (i : Int) < (b : Int) := by omega
        go_wp2_with fail
        go_end0
        obtain ⟨Y, R, h1, h2, h3, h4, h5, h6⟩ := HO.out
        have hX := HX.out
        have hP := HP.out
        have : R = [] := List.eq_nil_of_length_eq_zero (by omega)
        subst this
        exact ⟨rfl, Y, by simpa using h1, h2, h3, by simpa using h4⟩
  · have HE := hempty hlt0
    clear hstart hempty
    go_enter Try.func168, Try.ntmps168
    go_wp2_with fail
    go_loopw [8] (fun vi wr => vi = .int .i64 ((a : Int) + 1) ∧ wr = w) (fun vi _ => 1)
    case atStart => exact ⟨rfl, rfl⟩
    case round =>
      obtain ⟨rfl, rfl⟩ := hrel
      have hltz : ¬ (a : Int) + 1 < (b : Int) := by omega
      go_wp2_with fail
      go_end0
      exact ⟨rfl, [], by have := HR.out; rw [HE.out] at this; simpa using this, only_refl _ _, sortedC_nil, by rw [HE.out]; exact Stably.refl _⟩
end Go.Proofs.Ytndohmimcbmhdaa

set_option linter.unusedVariables false
set_option linter.unusedSimpArgs false
namespace Go.Proofs.Ytndohmimcbmhdaa
open Go.RowKit Go.Sort

def St1 (w : World) (g : Nat) (cs : List (Int × Int)) (tl : List Value) (bs a : Nat) (wr : World) : Prop :=
  ∃ P R, Row wr g (P ++ R) tl ∧ w.grownBy wr (some g) ∧ P.length = a ∧ WBlocks bs P ∧ Stably (P ++ R) cs
def St2 (w : World) (g : Nat) (cs : List (Int × Int)) (tl : List Value) (bs a : Nat) (wr : World) : Prop :=
  ∃ P R, Row wr g (P ++ R) tl ∧ w.grownBy wr (some g) ∧ P.length = a ∧ WBlocks (2 * bs) P ∧ Blocks bs R ∧ Stably (P ++ R) cs
def St3 (w : World) (g : Nat) (cs : List (Int × Int)) (tl : List Value) (bs : Nat) (wr : World) : Prop :=
  ∃ L, Row wr g L tl ∧ w.grownBy wr (some g) ∧ Blocks bs L ∧ Stably L cs

set_option maxRecDepth 100000 in
set_option maxHeartbeats 4000000 in
theorem stable148 (w : World) (g len cap : Nat) (cs : List (Int × Int)) (tl : List Value) (hr : Row w g cs tl) (hlen : cs.length = len) (hc : len ≤ cap) (hm : len ≤ 2305843009213693951) :
    Calls Try.prog 148 #[.slice (some ⟨g, 0, none⟩) len cap, .int .i64 len, .func (.func 94) #[] #[]] w fun e w' =>
      e = .returned (.tuple #[]) ∧ ∃ C, Row w' g C tl ∧ w.grownBy w' (some g) ∧ SortedC C ∧ Stably C cs := by
  have HL := hid hlen
  have HS : Hid (St1 w g cs tl 20 0 w) := ⟨[], cs, by simpa using hr, only_refl _ _, rfl, wblocks_nil 20, Stably.refl _⟩
  clear hr hlen
  go_enter Try.func148, Try.ntmps148
  go_wp2_with fail
  go_loopw [7, 8] (fun va vb wr => ∃ a b : Nat, va = .int .i64 a ∧ vb = .int .i64 b ∧ a + 20 ≤ b ∧ b ≤ a + 20 ∧ a ≤ len ∧ Hid (St1 w g cs tl 20 a wr)) (fun va _ _ => len - (intOf va).toNat)
  case atStart => exact ⟨0, 20, rfl, rfl, by omega, by omega, by omega, HS⟩
  case round =>
    obtain ⟨a, b, rfl, rfl, hab1, hab2, hal, H1⟩ := hrel
    obtain ⟨P, R, q1, q2, q3, q4, q5⟩ := H1.out
    have hll : (P ++ R).length = len := by rw [stably_length q5]; exact HL.out
    by_cases hlt : b ≤ len
    · have hltz : (b : Int) ≤ (len : Int) := by omega
      have e1 : P ++ R = P ++ R.take 20 ++ R.drop 20 := by simp
      have HC := hid (insertion168 wr g len cap a b P (R.take 20) (R.drop 20) tl (by rw [← e1]; exact q1) (by rw [← e1]; exact hll) q3 (by rw [List.length_take]; rw [List.length_append] at hll; omega) hc (by omega))
      have Q2 := hid q2
      have Q3 := hid q3
      have Q4 := hid q4
      have Q5 := hid q5
      have E1 := hid e1
      have HLL := hid hll
      clear q1 q2 q3 q4 q5 e1 hll H1
      go_wp2_with fail
      refine HC.out.mono ?_
      rintro e w1 ⟨rfl, Y, r1, r2, r3, r4⟩
      have HY : Hid (St1 w g cs tl 20 b w1) := by
        have hl := HLL.out
        rw [List.length_append] at hl
        have hyl := stably_length r4
        have hq := Q3.out
        rw [List.length_take] at hyl
        refine ⟨P ++ Y, R.drop 20, r1, only_trans Q2.out r2, by rw [List.length_append, Q3.out]; omega, wblocks_snoc Q4.out r3 (by omega), ?_⟩
        refine Stably.trans ?_ Q5.out
        rw [E1.out]
        exact Stably.append (Stably.append (Stably.refl _) r4) (Stably.refl _)
      clear r1 r2 r3 r4 HC
      go_wp2_with fail
      go_roundw
      case measure => simp [intOf] <;> omega
      case rel => exact ⟨b, b + 20, by first | rfl | go_num, by go_num, by omega, by omega, by omega, HY⟩
    · have hltz : ¬ (b : Int) ≤ (len : Int) := by omega
      have HC := hid (insertion168 wr g len cap a len P R [] tl (by simpa using q1) (by simpa using hll) q3 (by rw [List.length_append] at hll; omega) hc (by omega))
      have Q2 := hid q2
      have Q3 := hid q3
      have Q4 := hid q4
      have Q5 := hid q5
      have HLL := hid hll
      clear q1 q2 q3 q4 q5 hll H1
      go_wp2_with fail
      refine HC.out.mono ?_
      rintro e w1 ⟨rfl, Y, r1, r2, r3, r4⟩
      have HY : Hid (St3 w g cs tl 20 w1) := by
        have hl := HLL.out
        rw [List.length_append] at hl
        have hyl := stably_length r4
        have hp := Q3.out
        refine ⟨P ++ Y, by simpa using r1, only_trans Q2.out r2, blocks_snoc Q4.out r3 (by omega), ?_⟩
        exact Stably.trans (Stably.append (Stably.refl _) r4) Q5.out
      clear r1 r2 r3 r4 HC Q2 Q3 Q4 Q5 HLL
      go_wp2_with fail
      go_loopw [6] (fun vb wr2 => ∃ bs : Nat, vb = .int .i64 bs ∧ 20 ≤ bs ∧ bs ≤ 2 * len + 20 ∧ Hid (St3 w g cs tl bs wr2)) (fun vb _ => 2 * len + 20 - (intOf vb).toNat)
      case atStart => exact ⟨20, rfl, by omega, by omega, HY⟩
      case round =>
        obtain ⟨bs, rfl, hb1, hb2, H3⟩ := hrel
        by_cases hbl : bs < len
        · have hblz : (bs : Int) < (len : Int) := by omega
          have H2 : Hid (St2 w g cs tl bs 0 wr) := by
            obtain ⟨L, q1, q2, q3, q4⟩ := H3.out
            exact ⟨[], L, by simpa using q1, q2, rfl, wblocks_nil _, q3, by simpa using q4⟩
          clear H3
          go_wp2_with fail
          go_loopw [7, 8] (fun va vb wr3 => ∃ a b : Nat, va = .int .i64 a ∧ vb = .int .i64 b ∧ a + 2 * bs ≤ b ∧ b ≤ a + 2 * bs ∧ a ≤ len ∧ Hid (St2 w g cs tl bs a wr3)) (fun va _ _ => len - (intOf va).toNat)
          case atStart => exact ⟨0, 2 * bs, rfl, by go_num, by omega, by omega, by omega, H2⟩
          case round =>
            obtain ⟨a, b, rfl, rfl, hab3, hab4, hal2, H2⟩ := hrel
            obtain ⟨P', R', q1, q2, q3, q4, q5, q6⟩ := H2.out
            have hll : (P' ++ R').length = len := by rw [stably_length q6]; exact HL.out
            by_cases hlt2 : b ≤ len
            · have hltz2 : (b : Int) ≤ (len : Int) := by omega
              have e1 : P' ++ R' = P' ++ R'.take bs ++ (R'.drop bs).take bs ++ R'.drop (2 * bs) := by
                rw [List.append_assoc, List.append_assoc]
                congr 1
                rw [Nat.two_mul, ← List.drop_drop, List.take_append_drop, List.take_append_drop]
              have hsz : (R'.take bs).length = bs ∧ ((R'.drop bs).take bs).length = bs := by
                rw [List.length_append] at hll
                rw [List.length_take, List.length_take, List.length_drop]; omega
              have HC := hid (symMerge169 (2 * bs) wr g len cap a (a + bs) b P' (R'.take bs) ((R'.drop bs).take bs) (R'.drop (2 * bs)) tl (by rw [← e1]; exact q1) (by rw [← e1]; exact hll) q3 (by omega) (by omega) (by omega) (by omega) q5.first (q5.rest).first hc hm (by omega))
              have hca : ((a : Int) + (bs : Int)) = ((a + bs : Nat) : Int) := by omega
              have CA := hid hca
              have Q2 := hid q2
              have Q3 := hid q3
              have Q4 := hid q4
              have Q5 := hid q5
              have Q6 := hid q6
              have E1 := hid e1
              have SZ := hid hsz
              clear q1 q2 q3 q4 q5 q6 e1 hll H2 hca hsz
              go_wp2_with fail
              rw [CA.out]
              refine HC.out.mono ?_
              rintro e w2 ⟨rfl, Y, r1, r2, r3, r4⟩
              have HY2 : Hid (St2 w g cs tl bs b w2) := by
                have hyl := stably_length r4
                rw [List.length_append] at hyl
                have hs := SZ.out
                refine ⟨P' ++ Y, R'.drop (2 * bs), r1, only_trans Q2.out r2, by rw [List.length_append, Q3.out]; omega, wblocks_snoc Q4.out r3 (by omega), by rw [Nat.two_mul, ← List.drop_drop]; exact (Q5.out.rest).rest, ?_⟩
                refine Stably.trans ?_ Q6.out
                have e2 : P' ++ R'.take bs ++ (R'.drop bs).take bs ++ R'.drop (2 * bs) = P' ++ (R'.take bs ++ (R'.drop bs).take bs) ++ R'.drop (2 * bs) := by simp only [List.append_assoc]
                rw [E1.out, e2]
                exact Stably.append (Stably.append (Stably.refl _) r4) (Stably.refl _)
              clear r1 r2 r3 r4 HC
              go_wp2_with fail
              go_roundw
              case measure => simp [intOf] <;> omega
              case rel => exact ⟨b, b + 2 * bs, by first | rfl | go_num, by go_num, by omega, by omega, by omega, HY2⟩
            · have hltz2 : ¬ (b : Int) ≤ (len : Int) := by omega
              by_cases hlast : a + bs < len
              · have hlastz : (a : Int) + (bs : Int) < (len : Int) := by omega
                have hsz : (R'.take bs).length = bs ∧ (R'.drop bs).length + bs + a = len := by
                  rw [List.length_append] at hll
                  rw [List.length_take, List.length_drop]; omega
                have e1 : P' ++ R' = P' ++ R'.take bs ++ R'.drop bs ++ [] := by simp
                have HC := hid (symMerge169 (2 * bs) wr g len cap a (a + bs) len P' (R'.take bs) (R'.drop bs) [] tl (by rw [← e1]; exact q1) (by rw [← e1]; exact hll) q3 (by omega) (by omega) (by omega) (by omega) q5.first ((q5.rest).whole (by omega)) hc hm (by omega))
                have hca : ((a : Int) + (bs : Int)) = ((a + bs : Nat) : Int) := by omega
                have CA := hid hca
                have Q2 := hid q2
                have Q3 := hid q3
                have Q4 := hid q4
                have Q6 := hid q6
                have SZ := hid hsz
                clear q1 q2 q3 q4 q5 q6 e1 hll H2 hca hsz
                go_wp2_with fail
                rw [CA.out]
                refine HC.out.mono ?_
                rintro e w2 ⟨rfl, Y, r1, r2, r3, r4⟩
                have HY2 : Hid (St3 w g cs tl (2 * bs) w2) := by
                  have hyl := stably_length r4
                  rw [List.length_append] at hyl
                  have hs := SZ.out
                  refine ⟨P' ++ Y, by simpa using r1, only_trans Q2.out r2, blocks_snoc Q4.out r3 (by omega), ?_⟩
                  refine Stably.trans ?_ Q6.out
                  refine Stably.append (Stably.refl _) (Stably.trans r4 ?_)
                  rw [List.take_append_drop]; exact Stably.refl _
                clear r1 r2 r3 r4 HC
                go_wp2_with fail
                go_roundw
                case measure => simp [intOf] <;> omega
                case rel => exact ⟨2 * bs, by first | go_num | (congr 1; omega), by omega, by omega, HY2⟩
              · have hlastz : ¬ (a : Int) + (bs : Int) < (len : Int) := by omega
                have HY2 : Hid (St3 w g cs tl (2 * bs) wr) := by
                  rw [List.length_append] at hll
                  exact ⟨P' ++ R', q1, q2, blocks_snoc q4 (q5.whole (by omega)) (by omega), q6⟩
                clear q1 q2 q3 q4 q5 q6 hll H2
                go_wp2_with fail
                go_roundw
                case measure => simp [intOf] <;> omega
                case rel => exact ⟨2 * bs, by first | go_num | (congr 1; omega), by omega, by omega, HY2⟩
        · have hblz : ¬ (bs : Int) < (len : Int) := by omega
          go_wp2_with fail
          go_end0
          obtain ⟨L, q1, q2, q3, q4⟩ := H3.out
          have hll : L.length = len := by rw [stably_length q4]; exact HL.out
          exact ⟨rfl, L, q1, q2, q3.whole (by omega), q4⟩

set_option maxHeartbeats 400000 in
theorem sortStable93 (w : World) (g len cap : Nat) (cs : List (Int × Int)) (tl : List Value) (hr : Row w g cs tl) (hlen : cs.length = len) (hc : len ≤ cap) (hm : len ≤ 2305843009213693951) :
    Calls Try.prog 93 #[.slice (some ⟨g, 0, none⟩) len cap, .func (.func 94) #[] #[]] w fun e w' =>
      e = .returned (.tuple #[]) ∧ ∃ C, Row w' g C tl ∧ w.grownBy w' (some g) ∧ SortedC C ∧ Stably C cs := by
  have HC := hid (stable148 w g len cap cs tl hr hlen hc hm)
  clear hr hlen
  go_enter Try.func93, Try.ntmps93
  go_wp2_with fail
  refine HC.out.mono ?_
  rintro e w1 ⟨rfl, C, r1, r2, r3, r4⟩
  have HR : Hid (∃ C, Row w1 g C tl ∧ w.grownBy w1 (some g) ∧ SortedC C ∧ Stably C cs) := ⟨C, r1, r2, r3, r4⟩
  clear r1 r2 r3 r4 HC
  go_wp2_with fail
  go_end0
  exact ⟨rfl, HR.out⟩
end Go.Proofs.Ytndohmimcbmhdaa
