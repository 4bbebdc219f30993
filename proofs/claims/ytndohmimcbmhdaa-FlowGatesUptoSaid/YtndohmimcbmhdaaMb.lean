/- Operations whose guard is open: what they leave by the guard's value. -/
import Derived.Test.YtndohmimcbmhdaaLi
set_option linter.unusedVariables false
set_option linter.unusedSimpArgs false
namespace Go.Proofs.Ytndohmimcbmhdaa
open Go.RowKit

section
variable {P : Program} {ops : Array Oper} {D : Nat → Prop} {w : World} {Q : List Leaves → ((Nat → Value) → Act) → Prop} {i : Nat} {o : Oper} {rest : List Oper} {sp : List Leaves} {G : (Nat → Value) → Act}
theorem told_maybe {b : Bool} {v : Value} (hw : ∀ vs, Region.wanted o (yielded ops (G vs).tmps) = b) (hr : b = true → ∀ vs W, But D w W → looseUpon P nil_ (.val v) W ((execOp (G vs).eval o).run P W))
    (h : wpTold P ops D w Q (i + 1) rest (sp ++ [.val (bif b then v else undef)]) (fun vs => (G vs).put o.dst (bif b then v else undef))) : wpTold P ops D w Q i (o :: rest) sp G := by
  cases b with
  | true => exact told_val hw (hr rfl) h
  | false => exact told_off hw h
theorem told_not {b : Bool} {v : Value} (hw : ∀ vs, Region.wanted o (yielded ops (G vs).tmps) = !b) (hr : b = false → ∀ vs W, But D w W → looseUpon P nil_ (.val v) W ((execOp (G vs).eval o).run P W))
    (h : wpTold P ops D w Q (i + 1) rest (sp ++ [.val (bif b then undef else v)]) (fun vs => (G vs).put o.dst (bif b then undef else v))) : wpTold P ops D w Q i (o :: rest) sp G := by
  cases b with
  | false => exact told_val hw (hr rfl) h
  | true => exact told_off hw h
/-- The same, from what it waits for. -/
theorem told_maybe' {b : Bool} {v : Value} (hw : ∀ vs, Region.wanted o (yielded ops (G vs).tmps) = b)
    (hr : b = true → ∀ vs W, But D w W → (∀ e ∈ o.after, Region.binds .any e = true → ∀ s', sp[e.on]? = some s' → (s'.isFrail = true → false = true) → s'.ok W (vs e.on)) → looseUpon P nil_ (.val v) W ((execOp (G vs).eval o).run P W))
    (h : wpTold P ops D w Q (i + 1) rest (sp ++ [.val (bif b then v else undef)]) (fun vs => (G vs).put o.dst (bif b then v else undef))) : wpTold P ops D w Q i (o :: rest) sp G := by
  cases b with
  | true => exact told_val' hw (hr rfl) h
  | false => exact told_off hw h
theorem told_not' {b : Bool} {v : Value} (hw : ∀ vs, Region.wanted o (yielded ops (G vs).tmps) = !b)
    (hr : b = false → ∀ vs W, But D w W → (∀ e ∈ o.after, Region.binds .any e = true → ∀ s', sp[e.on]? = some s' → (s'.isFrail = true → false = true) → s'.ok W (vs e.on)) → looseUpon P nil_ (.val v) W ((execOp (G vs).eval o).run P W))
    (h : wpTold P ops D w Q (i + 1) rest (sp ++ [.val (bif b then undef else v)]) (fun vs => (G vs).put o.dst (bif b then undef else v))) : wpTold P ops D w Q i (o :: rest) sp G := by
  cases b with
  | false => exact told_val' hw (hr rfl) h
  | true => exact told_off hw h
end
end Go.Proofs.Ytndohmimcbmhdaa
