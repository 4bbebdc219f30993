/- The library's insertion sort of categories. -/
import Derived.Test.YtndohmimcbmhdaaCmp
import Derived.Test.YtndohmimcbmhdaaSorts
import Derived.BigQuiet
set_option linter.unusedVariables false
set_option linter.unusedSimpArgs false
namespace Go.Proofs.Ytndohmimcbmhdaa
open Go.RowKit Go.Sort

/-- Where the outer loop of the insertion sort stands: the first i - a ones are sorted. -/
def InsOuter (w : World) (g a b : Nat) (p X s : List (Int × Int)) (tl : List Value) (i : Nat) (wr : World) : Prop :=
  ∃ Y R, Row wr g (p ++ Y ++ R ++ s) tl ∧ w.grownBy wr (some g) ∧ SortedC Y ∧ Stably (Y ++ R) X ∧ p.length + Y.length = i ∧ Y.length + R.length = X.length
/-- Where its inner loop stands. -/
def InsInner (w : World) (g a b : Nat) (p X s : List (Int × Int)) (tl : List Value) (i j : Nat) (wr : World) : Prop :=
  ∃ Y1 x Y2 R, Row wr g (p ++ Y1 ++ x :: Y2 ++ R ++ s) tl ∧ w.grownBy wr (some g) ∧ SortedC (Y1 ++ Y2) ∧ (∀ y ∈ Y2, x.1 < y.1) ∧ Stably (Y1 ++ Y2 ++ x :: R) X ∧ p.length + Y1.length = j ∧ Y2.length + j = i ∧ Y1.length + 1 + Y2.length + R.length = X.length

/-- Out of the inner loop. -/
theorem ins_out {w wr : World} {g a b : Nat} {p X s : List (Int × Int)} {tl : List Value} {i j : Nat} {Y1 Y2 R : List (Int × Int)} {x : Int × Int}
    (hr : Row wr g (p ++ Y1 ++ x :: Y2 ++ R ++ s) tl) (hg : w.grownBy wr (some g)) (hs : SortedC (Y1 ++ Y2)) (h2 : ∀ y ∈ Y2, x.1 < y.1) (hst : Stably (Y1 ++ Y2 ++ x :: R) X) (hj : p.length + Y1.length = j) (hi : Y2.length + j = i) (hl : Y1.length + 1 + Y2.length + R.length = X.length)
    (h1 : ∀ y ∈ Y1, y.1 ≤ x.1) : InsOuter w g a b p X s tl (i + 1) wr := by
  refine ⟨Y1 ++ x :: Y2, R, by simpa [List.append_assoc] using hr, hg, insert_sorted hs h2 h1, ?_, by simp; omega, by simp; omega⟩
  refine Stably.trans ?_ hst
  have e : Y1 ++ Y2 ++ x :: R = (Y1 ++ Y2 ++ [x]) ++ R := by simp
  rw [e]
  exact Stably.append (insert_stably h2) (Stably.refl _)

set_option maxHeartbeats 2000000 in
theorem insertion168 (w : World) (g len cap a b : Nat) (p X s : List (Int × Int)) (tl : List Value) (hr : Row w g (p ++ X ++ s) tl) (hlen : (p ++ X ++ s).length = len) (hp : p.length = a) (hX : a + X.length = b) (hc : len ≤ cap) (hm : len ≤ 4611686018427387904) :
    Calls Try.prog 168 #[.slice (some ⟨g, 0, none⟩) len cap, .int .i64 a, .int .i64 b, .func (.func 94) #[] #[]] w fun e w' =>
      e = .returned (.tuple #[]) ∧ ∃ Y, Row w' g (p ++ Y ++ s) tl ∧ w.grownBy w' (some g) ∧ SortedC Y ∧ Stably Y X := by
  have hbl : b ≤ len := by simp at hlen; omega
  have hab : a ≤ b := by omega
  have hstart : a < b → Hid (InsOuter w g a b p X s tl (a + 1) w) := by
    intro h
    cases X with
    | nil => simp at hX; omega
    | cons x R => exact ⟨[x], R, by simpa using hr, only_refl _ _, sortedC_one x, Stably.refl _, by simp [hp], by simp; omega⟩
  have hempty : ¬ a < b → Hid (X = []) := by
    intro h
    have : X.length = 0 := by omega
    exact List.eq_nil_of_length_eq_zero this
  have HL := hid hlen
  have HP := hid hp
  have HX := hid hX
  have HR := hid hr
  clear hlen hp hX hr
  by_cases hlt0 : a < b
  · have HS := hstart hlt0
    clear hstart hempty HR
    go_enter Try.func168, Try.ntmps168
    go_wp2_with fail
    go_loopw [8] (fun vi wr => ∃ i : Nat, vi = .int .i64 i ∧ a < i ∧ i ≤ b ∧ Hid (InsOuter w g a b p X s tl i wr)) (fun vi _ => b + 1 - (intOf vi).toNat)
    case atStart => exact ⟨a + 1, by go_num, by omega, by omega, HS⟩
    case round =>
      obtain ⟨i, rfl, hai, hib, HO⟩ := hrel
      by_cases hlt : i < b
      · have hltz : (i : Int) < (b : Int) := by omega
        go_wp2_with fail
        go_loopw [9] (fun vj wr2 => ∃ j : Nat, vj = .int .i64 j ∧ a ≤ j ∧ j ≤ i ∧ Hid (InsInner w g a b p X s tl i j wr2)) (fun vj _ => (intOf vj).toNat)
        case atStart =>
          obtain ⟨Y, R, h1, h2, h3, h4, h5, h6⟩ := HO.out
          have hX := HX.out
          have hP := HP.out
          cases R with
          | nil => simp at h6; omega
          | cons x R => exact ⟨i, rfl, by omega, Nat.le_refl _, (show Hid _ from ⟨Y, x, [], R, by simpa using h1, h2, by simpa using h3, (fun _ hh => by cases hh), by simpa using h4, h5, by simp, by simp at h6 ⊢; omega⟩)⟩
        case round =>
          obtain ⟨j, rfl, haj, hji, HI⟩ := hrel
          obtain ⟨Y1, x, Y2, R, i1, i2, i3, i4, i5, i6, i7, i8⟩ := HI.out
          have hX := HX.out
          have hP := HP.out
          by_cases hja : a < j
          · obtain ⟨jp, rfl⟩ : ∃ jp, j = jp + 1 := ⟨j - 1, by omega⟩
            obtain ⟨Y1', y, rfl⟩ : ∃ Y1' y, Y1 = Y1' ++ [y] := by
              rcases List.eq_nil_or_concat Y1 with h | ⟨l, c, h⟩
              · subst h; simp at i6; omega
              · exact ⟨l, c, by simpa using h⟩
            have hjpl : (p ++ Y1').length = jp := by simp at i6 ⊢; omega
            have hlenz := HL.out
            simp at hlenz i8 i6
            have el : p ++ (Y1' ++ [y]) ++ x :: Y2 ++ R ++ s = (p ++ Y1') ++ y :: x :: (Y2 ++ R ++ s) := by simp
            rw [el] at i1
            have e0 : ((p ++ Y1') ++ y :: x :: (Y2 ++ R ++ s))[jp]? = some y := by rw [← hjpl]; exact get_at
            have e1 : ((p ++ Y1') ++ y :: x :: (Y2 ++ R ++ s))[jp + 1]? = some x := by rw [← hjpl]; exact get_at1
            have hjl : jp + 1 < len := by omega
            have c0 : ∀ n os, (grow (wr.drewN n) os).cell? ⟨g, jp * 2, none⟩ = some (.int .u64 y.1) := fun n os => (i1.grow n os).cell0 e0
            have c1 : ∀ n os, (grow (wr.drewN n) os).cell? ⟨g, jp * 2 + 1, none⟩ = some (.int .i64 y.2) := fun n os => (i1.grow n os).cell1 e0
            have c2 : ∀ n os, (grow (wr.drewN n) os).cell? ⟨g, (jp + 1) * 2, none⟩ = some (.int .u64 x.1) := fun n os => (i1.grow n os).cell0 e1
            have c3 : ∀ n os, (grow (wr.drewN n) os).cell? ⟨g, (jp + 1) * 2 + 1, none⟩ = some (.int .i64 x.2) := fun n os => (i1.grow n os).cell1 e1
            have hjaz : (a : Int) < (jp : Int) + 1 := by omega
            have hjz1 : (jp : Int) + 1 < (len : Int) := by omega
            have hjz2 : (0 : Int) ≤ (jp : Int) + 1 := by omega
            have hwp : IntKind.i64.wrap (jp : Int) = (jp : Int) := by rw [IntKind.wrap_i64]; omega
            have hjz3 : (jp : Int) < (len : Int) := by omega
            have e2 : ((jp : Int) + 1).toNat = jp + 1 := by omega
            have I1 := hid i1
            have I2 := hid i2
            have I3 := hid i3
            have I4 := hid i4
            have I5 := hid i5
            have E0 := hid e0
            have E1 := hid e1
            have JP := hid hjpl
            have I6 := hid i6
            have I7 := hid i7
            have I8 := hid i8
            have mixed : Try.prog.follows .mixedOrders = true := by kernel_rfl
            clear i1 i2 i3 i4 i5 i6 i7 i8 e0 e1 hjpl el hX hP hlenz
            by_cases hless : x.1 < y.1
            · have hcmp : cmpI x.1 y.1 < 0 := cmpI_neg.2 hless
              go_wp2_with fail
              go_quiet_grown (first | (go_at_call 94; refine Calls.grown_of (cmp94 x y _)))
              go_wp2_with fail
              have RQ := I1.out.grow nq osq
              have GQ := only_below I2.out (grown_below nq osq)
              obtain ⟨z, ⟨d0, d1, d2, d3⟩, ⟨f0, f1⟩, ⟨d4, d5, f2, f3⟩, RZ, GZ⟩ := RQ.swapFacts GQ E1.out E0.out
              clear RQ GQ c0 c1 c2 c3
              generalize grow (wr.drewN nq) osq = wq at *
              go_region
              all_goals
                go_wp2_with fail
                go_roundw
                case measure => simp [intOf] <;> omega
                case rel =>
                  refine ⟨jp, by first | rfl | go_num, by omega, by omega, (show Hid _ from ⟨Y1', x, y :: Y2, R, ?_, only_drew GZ.out, by simpa using I3.out, ?_, by simpa using I5.out, by have := JP.out; simp at this; exact this, by have := I7.out; simp; omega, by have := I8.out; simp; omega⟩)⟩
                  · have h := RZ.out.drew
                    have e := swap_at (A := p ++ Y1') (B := Y2 ++ R ++ s) (x := x) (y := y)
                    rw [JP.out] at e
                    rw [e] at h
                    simpa using h
                  · intro c hc
                    rcases List.mem_cons.1 hc with rfl | hc
                    · exact hless
                    · exact I4.out c hc
            · have hcmp : ¬ cmpI x.1 y.1 < 0 := fun h => hless (cmpI_neg.1 h)
              go_wp2_with fail
              go_quiet_grown (first | (go_at_call 94; refine Calls.grown_of (cmp94 x y _)))
              go_wp2_with fail
              have RQ := I1.out.grow nq osq
              have GQ := only_below I2.out (grown_below nq osq)
              go_roundw
              case measure => simp [intOf] <;> omega
              case rel =>
                refine ⟨i + 1, by go_num, by omega, by omega, (show Hid _ from ins_out (Y1 := Y1' ++ [y]) (x := x) (Y2 := Y2) (R := R) (j := jp + 1) (by simpa using RQ) GQ I3.out I4.out I5.out (by have := I6.out; simp; omega) I7.out (by have := I8.out; simp; omega) ?_)⟩
                intro c hc
                rcases List.mem_append.1 hc with hc | hc
                · have := I3.out.left.cross c hc y (by simp); omega
                · simp at hc; subst hc; omega
          · have hd : decide ((j : Int) > (a : Int)) = false := decide_eq_false (by omega)
            have hjaz' : ¬ (a : Int) < (j : Int) := by omega
            have I1 := hid i1
            have I2 := hid i2
            have I3 := hid i3
            have I4 := hid i4
            have I5 := hid i5
            have I6 := hid i6
            have I7 := hid i7
            have I8 := hid i8
            have hy : Hid (Y1 = []) := by show Y1 = []; exact List.eq_nil_of_length_eq_zero (by omega)
            have mixed : Try.prog.follows .mixedOrders = true := by kernel_rfl
            clear i1 i2 i3 i4 i5 i6 i7 i8 hX hP
            go_wp2_with fail
            go_quiet (fail)
            go_wp2_with fail
            have RQ := I1.out.drewN nq
            have GQ := only_drewN I2.out nq
            go_roundw
            case measure => simp [intOf] <;> omega
            case rel =>
              exact ⟨i + 1, by go_num, by omega, by omega, (show Hid _ from ins_out (Y1 := Y1) (x := x) (Y2 := Y2) (R := R) (j := j) RQ GQ I3.out I4.out I5.out I6.out I7.out I8.out (by rw [hy.out]; intro c hc; cases hc))⟩
      · have hltz : ¬ (i : Int) < (b : Int) := by omega
        go_wp2_with fail
        go_end0
        obtain ⟨Y, R, h1, h2, h3, h4, h5, h6⟩ := HO.out
        have hX := HX.out
        have hP := HP.out
        have : R = [] := List.eq_nil_of_length_eq_zero (by omega)
        subst this
        exact ⟨rfl, Y, by simpa using h1, h2, h3, by simpa using h4⟩
  · have HE := hempty hlt0
    clear hstart hempty
    go_enter Try.func168, Try.ntmps168
    go_wp2_with fail
    go_loopw [8] (fun vi wr => vi = .int .i64 ((a : Int) + 1) ∧ wr = w) (fun vi _ => 1)
    case atStart => exact ⟨rfl, rfl⟩
    case round =>
      obtain ⟨rfl, rfl⟩ := hrel
      have hltz : ¬ (a : Int) + 1 < (b : Int) := by omega
      go_wp2_with fail
      go_end0
      exact ⟨rfl, [], by have := HR.out; rw [HE.out] at this; simpa using this, only_refl _ _, sortedC_nil, by rw [HE.out]; exact Stably.refl _⟩
end Go.Proofs.Ytndohmimcbmhdaa
