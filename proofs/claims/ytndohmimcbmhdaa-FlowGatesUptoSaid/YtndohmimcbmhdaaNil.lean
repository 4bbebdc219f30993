/- The library's functions on the nil slice. -/
import Derived.Test.YtndohmimcbmhdaaCom
import Derived.Test.YtndohmimcbmhdaaX8
set_option linter.unusedVariables false
set_option linter.unusedSimpArgs false
namespace Go.Proofs.Ytndohmimcbmhdaa
open Go.RowKit Go.Sort

set_option maxHeartbeats 1000000 in
theorem nil168 (w : World) : Calls Try.prog 168 #[.slice none 0 0, .int .i64 0, .int .i64 0, .func (.func 94) #[] #[]] w fun e w' => e = .returned (.tuple #[]) ∧ w = w' := by
  go_enter Try.func168, Try.ntmps168
  go_wp2_with fail
  go_loopw [8] (fun vi wr => vi = .int .i64 1 ∧ Hid (w = wr)) (fun _ _ => 0)
  case atStart => exact ⟨rfl, (rfl : w = w)⟩
  case round =>
    obtain ⟨rfl, EW⟩ := hrel
    have ew : w = wr := EW
    subst ew
    go_wp2_with fail
    go_end0
    exact ⟨rfl, rfl⟩

set_option maxHeartbeats 1000000 in
theorem nil148 (w : World) : Calls Try.prog 148 #[.slice none 0 0, .int .i64 0, .func (.func 94) #[] #[]] w fun e w' => e = .returned (.tuple #[]) ∧ w = w' := by
  go_enter Try.func148, Try.ntmps148
  go_wp2_with fail
  go_loopw [7, 8] (fun va vb wr => va = .int .i64 0 ∧ vb = .int .i64 20 ∧ Hid (w = wr)) (fun _ _ _ => 0)
  case atStart => exact ⟨rfl, rfl, (rfl : w = w)⟩
  case round =>
    obtain ⟨rfl, rfl, EW⟩ := hrel
    have ew : w = wr := EW
    subst ew
    go_wp2_with fail
    refine (nil168 w).mono ?_
    rintro e w1 ⟨rfl, rfl⟩
    go_wp2_with fail
    go_loopw [6] (fun va wq => va = .int .i64 20 ∧ Hid (w = wq)) (fun _ _ => 0)
    case atStart => exact ⟨rfl, (rfl : w = w)⟩
    case round =>
      obtain ⟨rfl, EW⟩ := hrel
      have ew : w = wr := EW
      subst ew
      go_wp2_with fail
      go_end0
      exact ⟨rfl, rfl⟩

set_option maxHeartbeats 400000 in
theorem nil93 (w : World) : Calls Try.prog 93 #[.slice none 0 0, .func (.func 94) #[] #[]] w fun e w' => e = .returned (.tuple #[]) ∧ w = w' := by
  go_enter Try.func93, Try.ntmps93
  go_wp2_with (go_at_call 148; refine (nil148 w).mono ?_; rintro e w1 ⟨rfl, rfl⟩)
  go_end0
  exact ⟨rfl, rfl⟩

set_option maxHeartbeats 400000 in
theorem nil96 (w : World) : Calls Try.prog 96 #[.slice none 0 0, .func (.func 97) #[] #[]] w fun e w' => e = .returned (.slice none 0 0) ∧ w = w' := by
  go_enter Try.func96, Try.ntmps96
  go_wp2_with fail
  go_ret
  exact ⟨rfl, rfl⟩

set_option maxHeartbeats 400000 in
theorem nil98 (w : World) (fn : Nat) (cb : Array Value) (p : Int × Int → Bool) (ht : TestOk fn cb p w) (eg : ∀ args w, (callFunc fn args).run Try.prog w = .ok (.enter fn args) w) :
    Calls Try.prog 98 #[.slice none 0 0, .func (.func fn) #[] cb] w fun e w' => e = .returned (.slice none 0 0) ∧ Below w.heap.size w w' := by
  have HI := hid (indexFunc150 w none 0 0 [] fn cb p CatsAt.nil_ ht eg)
  have hi : idxOf p [] = -1 := rfl
  rw [hi] at HI
  clear ht
  go_enter Try.func98, Try.ntmps98
  go_wp2_with fail
  refine HI.out.mono ?_
  rintro e w1 ⟨rfl, hb⟩
  go_wp2_with fail
  go_ret
  exact ⟨rfl, hb⟩
end Go.Proofs.Ytndohmimcbmhdaa
