/- The comparisons and tests that label hands to the library's functions on slices. -/
import Derived.Test.YtndohmimcbmhdaaProg
import Derived.Test.YtndohmimcbmhdaaCats
import Derived.BigRegion
import Derived.Shelf.SlSortCmp.QuietGrown
set_option linter.unusedVariables false
set_option linter.unusedSimpArgs false
namespace Go.Proofs.Ytndohmimcbmhdaa
open Go.RowKit Go.Sort

theorem grown_below {w : World} (n : Nat) (os : Array Obj) : Below w.heap.size w (grow (w.drewN n) os) :=
  ⟨rfl, rfl, rfl, by rw [size_grow]; exact Nat.le_add_right _ _, fun k hk => heap_grow_old (w.drewN n) os hk⟩
theorem Row.grow {w : World} {g : Nat} {cs : List (Int × Int)} {tl : List Value} (h : Row w g cs tl) (n : Nat) (os : Array Obj) : Row (grow (w.drewN n) os) g cs tl :=
  h.below (grown_below n os) h.lt

/-- What comparing two categories answers. -/
def cmpI (a b : Int) : Int := if a < b then -1 else if b < a then 1 else 0

theorem cmpI_neg {a b : Int} : cmpI a b < 0 ↔ a < b := by unfold cmpI; split <;> (try split) <;> omega

set_option maxHeartbeats 400000 in
theorem isNaN149 (a : Int) (w : World) : Calls Try.prog 149 #[.int .u64 a] w fun e w' => e = .returned (.bool false) ∧ w = w' := by
  have h : (a != a) = false := by simp
  go_enter Try.func149, Try.ntmps149
  go_wp2_with fail
  go_ret
  exact ⟨rfl, rfl⟩

set_option maxHeartbeats 400000 in
theorem compare95 (a b : Int) (w : World) : Calls Try.prog 95 #[.int .u64 a, .int .u64 b] w fun e w' => e = .returned (.int .i64 (cmpI a b)) ∧ w = w' := by
  by_cases h1 : a < b
  · have H : Hid (cmpI a b = -1) := by show cmpI a b = _; simp [cmpI, h1]
    go_enter Try.func95, Try.ntmps95
    go_wp2_with (go_at_call 149; refine (isNaN149 _ _).mono ?_; rintro e w' ⟨rfl, rfl⟩)
    go_ret
    exact ⟨by rw [H.out]; rfl, rfl⟩
  · by_cases h2 : b < a
    · have H : Hid (cmpI a b = 1) := by show cmpI a b = _; simp [cmpI, h1, h2]
      go_enter Try.func95, Try.ntmps95
      go_wp2_with (go_at_call 149; refine (isNaN149 _ _).mono ?_; rintro e w' ⟨rfl, rfl⟩)
      go_ret
      exact ⟨by rw [H.out]; rfl, rfl⟩
    · have H : Hid (cmpI a b = 0) := by show cmpI a b = _; simp [cmpI, h1, h2]
      go_enter Try.func95, Try.ntmps95
      go_wp2_with (go_at_call 149; refine (isNaN149 _ _).mono ?_; rintro e w' ⟨rfl, rfl⟩)
      go_ret
      exact ⟨by rw [H.out]; rfl, rfl⟩

set_option maxHeartbeats 400000 in
theorem cmp94 (a b : Int × Int) (w : World) : Calls Try.prog 94 #[.agg #[.int .u64 a.1, .int .i64 a.2], .agg #[.int .u64 b.1, .int .i64 b.2]] w fun e w' => e = .returned (.int .i64 (cmpI a.1 b.1)) ∧ ∃ q os, w' = grow (w.drewN q) os := by
  go_enter Try.func94, Try.ntmps94
  go_wp2_with (go_at_call 95; refine (compare95 _ _ _).mono ?_; rintro e w' ⟨rfl, rfl⟩)
  go_ret
  exact ⟨rfl, 0, _, by rw [alloc_eq_grow, alloc_eq_grow, grow_grow]; rfl⟩

set_option maxHeartbeats 400000 in
theorem same97 (a b : Int × Int) (w : World) : Calls Try.prog 97 #[.agg #[.int .u64 a.1, .int .i64 a.2], .agg #[.int .u64 b.1, .int .i64 b.2]] w fun e w' => e = .returned (.bool (a.1 == b.1)) ∧ ∃ q os, w' = grow (w.drewN q) os := by
  go_enter Try.func97, Try.ntmps97
  go_wp2_with fail
  go_ret
  exact ⟨rfl, 0, _, by rw [alloc_eq_grow, alloc_eq_grow, grow_grow]; rfl⟩

set_option maxHeartbeats 400000 in
theorem isDef99 (a : Int × Int) (p : Addr) (d : Int) (w : World) (hp : p.block < w.heap.size) (hd : w.cell? p = some (.int .i64 d)) : Calls Try.prog 99 #[.agg #[.int .u64 a.1, .int .i64 a.2], .pointer (some p)] w fun e w' => e = .returned (.bool (a.2 == d)) ∧ ∃ q os, w' = grow (w.drewN q) os := by
  have hd' : ∀ o, (w.alloc o).cell? p = some (.int .i64 d) := fun o => by rw [World.cell?_alloc_lt w o p hp]; exact hd
  go_enter Try.func99, Try.ntmps99
  go_wp2_with fail
  go_ret
  exact ⟨rfl, 0, _, by rw [alloc_eq_grow]; rfl⟩

end Go.Proofs.Ytndohmimcbmhdaa
