/- The words at the program's head, read once. (Printed by genhead.py.) -/
import Derived.Test.YtndohmimcbmhdaaRows
import Derived.JoinedOf
set_option linter.unusedVariables false
set_option linter.unusedSimpArgs false
namespace Go.Proofs.Ytndohmimcbmhdaa

theorem ws_word : ∀ (w : List Char), (∀ c ∈ w, c ≠ ' ') → ∀ r, wordsSigns (w ++ ' ' :: r) = w :: wordsSigns r := by
  intro w
  induction w with
  | nil => intro _ r; rfl
  | cons c w ih =>
    intro h r
    have h1 := ih (fun x hx => h x (List.mem_cons_of_mem _ hx)) r
    have h2 : c ≠ ' ' := h c List.mem_cons_self
    rw [List.cons_append, wordsSigns]
    · rw [h1]
    · exact h2

def headA : List Char := ['h', 'a', 'r', 'n', 'e', 's', 's']
def headB : List Char := ['a', 'a', '5', '7', '6', '6', '2', 'd', '6', '8', 'f', 'c', 'a', 'f', '3', 'a', '8', '0', '8', 'a', 'f', 'a', '7', '0', 'e', '9', '2', '1', '5', 'e', 'c', '8', 'b', 'c', '0', 'a', '9', '6', 'f', 'e', 'c', '0', '9', '7', '9', 'a', '5', 'a', '6', 'f', '8', '1', '5', 'e', '0', '1', '0', '7', 'a', 'b', '4', 'd', '5', 'f']
def headC : List Char := ['c', 'u', 't']
def headR : List Char := ['a', 't', ' ', 'b', 'a', 'i', 'l', 'e', 'y', '/', 'b', 'a', 'i', 'l', 'e', 'y', 'l', 'a', 'w', '0', '9', '.', 'L', 'a', 'b', 'e', 'l', 'N', 'a', 'm', 'e', 's', ' ', 'b', 'a', 'i', 'l', 'e', 'y', '/', 'b', 'a', 'i', 'l', 'e', 'y', 'l', 'a', 'w', '0', '9', '.', 'L', 'a', 'b', 'e', 'l', 'M', 'a', 'k', 'e', 's', ' ', 'b', 'a', 'i', 'l', 'e', 'y', '/', 'b', 'a', 'i', 'l', 'e', 'y', 'l', 'a', 'w', '0', '9', '.', 'L', 'a', 'b', 'e', 'l', 'O', 'r', 'd', 'e', 'r', 's', ' ', 'b', 'a', 'i', 'l', 'e', 'y', '/', 'b', 'a', 'i', 'l', 'e', 'y', 'l', 'a', 'w', '0', '9', '.', 'L', 'a', 'b', 'e', 'l', 'L', 'a', 't', 't', 'i', 'c', 'e', ' ', 'b', 'a', 'i', 'l', 'e', 'y', '/', 'b', 'a', 'i', 'l', 'e', 'y', 'l', 'a', 'w', '0', '9', '.', 'L', 'a', 'b', 'e', 'l', 'M', 'e', 'r', 'g', 'e', 's', ' ', 'b', 'a', 'i', 'l', 'e', 'y', '/', 'b', 'a', 'i', 'l', 'e', 'y', 'l', 'a', 'w', '0', '9', '.', 'L', 'a', 'b', 'e', 'l', 'R', 'i', 'g', 'h', 't', 's', ' ', 'b', 'a', 'i', 'l', 'e', 'y', '/', 'b', 'a', 'i', 'l', 'e', 'y', 'l', 'a', 'w', '0', '9', '.', 'L', 'a', 'b', 'e', 'l', 'O', 'w', 'n', 's', ' ', 'b', 'a', 'i', 'l', 'e', 'y', '/', 'b', 'a', 'i', 'l', 'e', 'y', 'l', 'a', 'w', '1', '0', '.', 'F', 'l', 'o', 'w', 'R', 'e', 'a', 'd', 's', ' ', 'b', 'a', 'i', 'l', 'e', 'y', '/', 'b', 'a', 'i', 'l', 'e', 'y', 'l', 'a', 'w', '1', '0', '.', 'F', 'l', 'o', 'w', 'U', 'p', ' ', 'b', 'a', 'i', 'l', 'e', 'y', '/', 'b', 'a', 'i', 'l', 'e', 'y', 'l', 'a', 'w', '1', '0', '.', 'F', 'l', 'o', 'w', 'O', 'w', 'n', 'e', 'r', ' ', 'b', 'a', 'i', 'l', 'e', 'y', '/', 'b', 'a', 'i', 'l', 'e', 'y', 'l', 'a', 'w', '1', '0', '.', 'F', 'l', 'o', 'w', 'M', 'a', 'k', 'e', 's', ' ', 'b', 'a', 'i', 'l', 'e', 'y', '/', 'b', 'a', 'i', 'l', 'e', 'y', 'l', 'a', 'w', '1', '0', '.', 'F', 'l', 'o', 'w', 'T', 'u', 'r', 'n', 's', ' ', 'b', 'a', 'i', 'l', 'e', 'y', '/', 'b', 'a', 'i', 'l', 'e', 'y', 'l', 'a', 'w', '1', '0', '.', 'F', 'l', 'o', 'w', 'E', 'n', 't', 'e', 'r', 's', ' ', 'b', 'a', 'i', 'l', 'e', 'y', '/', 'b', 'a', 'i', 'l', 'e', 'y', 'l', 'a', 'w', '1', '0', '.', 'F', 'l', 'o', 'w', 'G', 'a', 't', 'e', 's', ' ', 'b', 'a', 'i', 'l', 'e', 'y', '/', 'b', 'a', 'i', 'l', 'e', 'y', 'l', 'a', 'w', '1', '7', '.', 'S', 'p', 'a', 'c', 'e', 'N', 'a', 'm', 'e', 's', ' ', 'b', 'a', 'i', 'l', 'e', 'y', '/', 'b', 'a', 'i', 'l', 'e', 'y', 'l', 'a', 'w', '1', '7', '.', 'S', 'p', 'a', 'c', 'e', 'M', 'a', 'p', 's', ' ', 'b', 'a', 'i', 'l', 'e', 'y', '/', 'b', 'a', 'i', 'l', 'e', 'y', 'l', 'a', 'w', '1', '7', '.', 'S', 'p', 'a', 'c', 'e', 'W', 'i', 'n', 'd', 'o', 'w', 's', ' ', 'b', 'a', 'i', 'l', 'e', 'y', '/', 'b', 'a', 'i', 'l', 'e', 'y', 'l', 'a', 'w', '1', '7', '.', 'S', 'p', 'a', 'c', 'e', 'F', 'o', 'u', 'r', ' ', 'b', 'a', 'i', 'l', 'e', 'y', '/', 'b', 'a', 'i', 'l', 'e', 'y', 'l', 'a', 'w', '1', '8', '.', 'G', 'a', 't', 'e', 'N', 'a', 'm', 'e', 's', ' ', 'b', 'a', 'i', 'l', 'e', 'y', '/', 'b', 'a', 'i', 'l', 'e', 'y', 'l', 'a', 'w', '1', '8', '.', 'G', 'a', 't', 'e', 'P', 'a', 's', 's', 'e', 's', ' ', 'b', 'a', 'i', 'l', 'e', 'y', '/', 'b', 'a', 'i', 'l', 'e', 'y', 'l', 'a', 'w', '1', '8', '.', 'G', 'a', 't', 'e', 'M', 'i', 'n', 't', 's', ' ', 'b', 'a', 'i', 'l', 'e', 'y', '/', 'b', 'a', 'i', 'l', 'e', 'y', 'l', 'a', 'w', '1', '8', '.', 'G', 'a', 't', 'e', 'O', 'w', 'n', 's', ' ', 'b', 'a', 'i', 'l', 'e', 'y', '/', 'b', 'a', 'i', 'l', 'e', 'y', 'l', 'a', 'w', '1', '8', '.', 'G', 'a', 't', 'e', 'A', 'p', 'a', 'r', 't', ' ', 'b', 'a', 'i', 'l', 'e', 'y', '/', 'b', 'a', 'i', 'l', 'e', 'y', 'l', 'a', 'w', '1', '1', '.', 'T', 'h', 'i', 'n', 'g', 'N', 'a', 'm', 'e', 's', ' ', 'b', 'a', 'i', 'l', 'e', 'y', '/', 'b', 'a', 'i', 'l', 'e', 'y', 'l', 'a', 'w', '1', '1', '.', 'T', 'h', 'i', 'n', 'g', 'I', 'm', 'a', 'g', 'e', 's', ' ', 'b', 'a', 'i', 'l', 'e', 'y', '/', 'b', 'a', 'i', 'l', 'e', 'y', 'l', 'a', 'w', '1', '1', '.', 'T', 'h', 'i', 'n', 'g', 'R', 'e', 'a', 'd', 's', ' ', 'b', 'a', 'i', 'l', 'e', 'y', '/', 'b', 'a', 'i', 'l', 'e', 'y', 'l', 'a', 'w', '1', '1', '.', 'T', 'h', 'i', 'n', 'g', 'B', 'a', 'c', 'k', ' ', 'b', 'a', 'i', 'l', 'e', 'y', '/', 'b', 'a', 'i', 'l', 'e', 'y', 'l', 'a', 'w', '1', '1', '.', 'T', 'h', 'i', 'n', 'g', 'S', 'i', 'z', 'e', 's', ' ', 'b', 'a', 'i', 'l', 'e', 'y', '/', 'b', 'a', 'i', 'l', 'e', 'y', 'l', 'a', 'w', '1', '1', '.', 'T', 'h', 'i', 'n', 'g', 'R', 'i', 'g', 'h', 't', 's', ' ', 'b', 'a', 'i', 'l', 'e', 'y', '/', 'b', 'a', 'i', 'l', 'e', 'y', 'l', 'a', 'w', '1', '1', '.', 'T', 'h', 'i', 'n', 'g', 'A', 'p', 'a', 'r', 't']
theorem head_is : Try.prog.initOrder = String.ofList (headA ++ ' ' :: (headB ++ ' ' :: (headC ++ ' ' :: headR))) := by kernel_rfl
theorem head_words : behindMainWord (wordsSigns Try.prog.initOrder.toList) = headC :: wordsSigns headR := by
  rw [head_is, String.toList_ofList, ws_word headA (by decide), ws_word headB (by decide), ws_word headC (by decide)]
  have h : ∀ X, behindMainWord (headA :: headB :: headC :: X) = headC :: X := fun X => by kernel_rfl
  exact h _
theorem no_lifts (X : List (List Char)) : stripLifts liftWords (headC :: X) = ([], headC :: X) := by kernel_rfl
theorem some_cut : (some headC == some "cut".toList) = true := by kernel_rfl
theorem not_in (s : String) : ([] : List String).contains s = false := rfl
theorem enters_of (P : Program) (X : List (List Char)) (h : behindMainWord (wordsSigns P.initOrder.toList) = headC :: X) (h1 : P.laysLater = false) (h2 : P.bearsReflect = false) (h3 : P.doorFits [] = true) : P.mayEnter = true := by
  unfold Program.mayEnter
  rw [h]
  simp only [no_lifts, h1, h2, h3, List.head?_cons, some_cut, not_in, Bool.not_false, Bool.or_true, Bool.and_true, Bool.true_and]
theorem lifts_of (P : Program) (X : List (List Char)) (h : behindMainWord (wordsSigns P.initOrder.toList) = headC :: X) : P.headLifts = [] := by
  unfold Program.headLifts
  rw [h]
  simp only [no_lifts, ite_self]
theorem not_carried : (some headC == some "carried".toList) = false := by kernel_rfl
theorem not_gc : (headC == "gc".toList || headC == "spec".toList) = false := by kernel_rfl
theorem finals_of (P : Program) (X : List (List Char)) (h : behindMainWord (wordsSigns P.initOrder.toList) = headC :: X) : P.liftsFinal = false := by
  unfold Program.liftsFinal
  rw [h, lifts_of P X h]
  simp only [List.head?_cons, not_carried, Bool.false_and, Bool.false_or, not_in]
theorem made_of (P : Program) (X : List (List Char)) (h : behindMainWord (wordsSigns P.initOrder.toList) = headC :: X) : P.make = some .cut := by
  unfold Program.make
  rw [h]
  have hc : (headC == "cut".toList) = true := by kernel_rfl
  simp only [not_gc, hc, Bool.true_or, if_true, Bool.false_eq_true, if_false]
theorem enters : Try.prog.mayEnter = true := enters_of _ _ head_words (by kernel_rfl) (by kernel_rfl) (by kernel_rfl)
theorem finals : Try.prog.liftsFinal = false := finals_of _ _ head_words
theorem made : Try.prog.make = some .cut := made_of _ _ head_words
end Go.Proofs.Ytndohmimcbmhdaa
