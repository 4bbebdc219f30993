/- A law's last step, whatever its arguments' types: true was answered, and of what lay there nothing has turned. -/
import Derived.WalkKit
import Derived.ProofKit
import Derived.OpenShut
import Derived.ChangeOld
import Derived.Below
import Derived.WalkLawsBesides
import Derived.Test.YtndohmimcbmhdaaRows
import Derived.JoinedOf
import Derived.Laws.OwnMore
import Derived.Deep.AppendLies
import Derived.Deep.Draws
import Derived.Laws.Rows
import Derived.Maps.AppendAt
import Derived.RegionTactic
import Derived.OwnWalk
set_option linter.unusedVariables false
set_option linter.unusedSimpArgs false
namespace Go.Proofs.Ytndohmimcbmhdaa
open Go.ChangeShapes Go.WideShapes Go.ChangeAt Go.RowKit

section
variable {H : Type} {enc : TypeId × Value → H} {P : Program}

theorem trodAll_lt {w : World} {base : Nat} {spare : Nat → Bool} {held : Bool} : ∀ (ts : List TypeId) (vs : List Value) (ds : List (DataW H)) (ps : List MemPlace),
    DataW.TrodAll enc P w base spare held ts vs ds ps → ∀ x ∈ ps, x.block < w.heap.size := by
  intro ts
  induction ts with
  | nil => intro vs ds ps h; obtain ⟨rfl, rfl, rfl⟩ := trodAll_nil h; intro x hx; cases hx
  | cons t ts ih =>
    intro vs ds ps h
    obtain ⟨v, vs', d, ds', p, q, rfl, rfl, rfl, h0, h1⟩ := trodAll_cons h
    intro x hx
    rcases List.mem_append.1 hx with hx | hx
    · obtain ⟨m, hm⟩ := h0; exact DataW.trod_lt m _ _ _ hm x hx
    · exact ih _ _ _ h1 x hx

theorem trodAll_length {w : World} {base : Nat} {spare : Nat → Bool} {held : Bool} : ∀ (ts : List TypeId) (vs : List Value) (ds : List (DataW H)) (ps : List MemPlace),
    DataW.TrodAll enc P w base spare held ts vs ds ps → ds.length = ts.length := by
  intro ts
  induction ts with
  | nil => intro vs ds ps h; obtain ⟨rfl, rfl, rfl⟩ := trodAll_nil h; rfl
  | cons t ts ih =>
    intro vs ds ps h
    obtain ⟨v, vs', d, ds', p, q, rfl, rfl, rfl, h0, h1⟩ := trodAll_cons h
    simp [ih _ _ _ h1]

/-- The arguments read as they did. -/
theorem trodAll_below (hl : laidOutB P = true) {W W' : World} (hb : Below W.heap.size W W') : ∀ (ts : List TypeId), ts.all (fun t => P.readableRec t && decide (t < P.types.size)) = true →
    ∀ (vs : List Value) (ds : List (DataW H)) (ps : List MemPlace), DataW.TrodAll enc P W 0 (fun _ => true) true ts vs ds ps → (∀ x ∈ ps, x.block < W.heap.size) →
    DataW.TrodAll enc P W' 0 (fun b => decide (b < W.heap.size)) true ts vs ds ps := by
  intro ts
  induction ts with
  | nil => intro _ vs ds ps h _; obtain ⟨rfl, rfl, rfl⟩ := trodAll_nil h; exact rfl
  | cons t ts ih =>
    intro hr vs ds ps h hlt
    simp only [List.all_cons, Bool.and_eq_true, decide_eq_true_eq] at hr
    obtain ⟨v, vs', d, ds', p, q, rfl, rfl, rfl, h0, h1⟩ := trodAll_cons h
    exact trodAll_cons_mk (Below.trod hl hr.1.1 hr.1.2 h0 hb (fun x hx => hlt x (List.mem_append.2 (.inl hx)))) (ih hr.2 _ _ _ h1 (fun x hx => hlt x (List.mem_append.2 (.inr hx))))

theorem law_post {f : Func} {s : ChangeSpec} {tb : TypeId} {W W' : World} {args : Array Value} {ds gs : List (DataW H)} {before : List MemPlace}
    (hvars : s.vars = []) (hres : f.resultTypes = #[tb]) (hbool : P.underlying tb = some .bool) (hl : laidOutB P = true)
    (hr : f.params.toList.all (fun t => P.readableRec t && decide (t < P.types.size)) = true)
    (hfn : ∀ ds : List (DataW H), ds.length = f.params.toList.length → s.fn H ds = { results := [.lit (.bool true)], args := ds })
    (hW : DataW.Whole enc P f.params.toList s.vars false W args.toList ds gs before) (hb : Below W.heap.size W W') :
    s.post enc P f false true false false W args (.bool true) W' := by
  have hW' := hW
  obtain ⟨p, q, hA, hV, rfl, hfz, hnd⟩ := hW
  rw [hvars] at hV
  obtain ⟨rfl, rfl⟩ := trodVars_none hV
  have hlen := trodAll_length _ _ _ _ hA
  have hf := hfn ds hlen
  refine ⟨ds, [], p ++ [], [], p, [], hW', ?_, ?_, ?_, hb.frame _, fun h => by cases h⟩
  · rw [List.append_nil, hf, hres]
    exact trodAll_mk1 (shut_bool hbool _)
  · rw [List.append_nil, hf]
    exact trodAll_below hl hb _ hr _ _ _ hA (trodAll_lt _ _ _ _ hA)
  · rw [List.append_nil, hf, hvars]
    exact rfl

theorem below_drewN {B : Nat} {a w : World} (h : Below B a w) (n : Nat) : Below B a (w.drewN n) := ⟨h.os, h.tape, h.output, h.size, h.block⟩
end
end Go.Proofs.Ytndohmimcbmhdaa

/- The words at the program's head, read once. (Printed by genhead.py.) -/
set_option linter.unusedVariables false
set_option linter.unusedSimpArgs false
namespace Go.Proofs.Ytndohmimcbmhdaa

theorem ws_word : ∀ (w : List Char), (∀ c ∈ w, c ≠ ' ') → ∀ r, wordsSigns (w ++ ' ' :: r) = w :: wordsSigns r := by
  intro w
  induction w with
  | nil => intro _ r; rfl
  | cons c w ih =>
    intro h r
    have h1 := ih (fun x hx => h x (List.mem_cons_of_mem _ hx)) r
    have h2 : c ≠ ' ' := h c List.mem_cons_self
    rw [List.cons_append, wordsSigns]
    · rw [h1]
    · exact h2

def headA : List Char := ['h', 'a', 'r', 'n', 'e', 's', 's']
def headB : List Char := ['a', 'a', '5', '7', '6', '6', '2', 'd', '6', '8', 'f', 'c', 'a', 'f', '3', 'a', '8', '0', '8', 'a', 'f', 'a', '7', '0', 'e', '9', '2', '1', '5', 'e', 'c', '8', 'b', 'c', '0', 'a', '9', '6', 'f', 'e', 'c', '0', '9', '7', '9', 'a', '5', 'a', '6', 'f', '8', '1', '5', 'e', '0', '1', '0', '7', 'a', 'b', '4', 'd', '5', 'f']
def headC : List Char := ['c', 'u', 't']
def headR : List Char := ['a', 't', ' ', 'b', 'a', 'i', 'l', 'e', 'y', '/', 'b', 'a', 'i', 'l', 'e', 'y', 'l', 'a', 'w', '0', '9', '.', 'L', 'a', 'b', 'e', 'l', 'N', 'a', 'm', 'e', 's', ' ', 'b', 'a', 'i', 'l', 'e', 'y', '/', 'b', 'a', 'i', 'l', 'e', 'y', 'l', 'a', 'w', '0', '9', '.', 'L', 'a', 'b', 'e', 'l', 'M', 'a', 'k', 'e', 's', ' ', 'b', 'a', 'i', 'l', 'e', 'y', '/', 'b', 'a', 'i', 'l', 'e', 'y', 'l', 'a', 'w', '0', '9', '.', 'L', 'a', 'b', 'e', 'l', 'O', 'r', 'd', 'e', 'r', 's', ' ', 'b', 'a', 'i', 'l', 'e', 'y', '/', 'b', 'a', 'i', 'l', 'e', 'y', 'l', 'a', 'w', '0', '9', '.', 'L', 'a', 'b', 'e', 'l', 'L', 'a', 't', 't', 'i', 'c', 'e', ' ', 'b', 'a', 'i', 'l', 'e', 'y', '/', 'b', 'a', 'i', 'l', 'e', 'y', 'l', 'a', 'w', '0', '9', '.', 'L', 'a', 'b', 'e', 'l', 'M', 'e', 'r', 'g', 'e', 's', ' ', 'b', 'a', 'i', 'l', 'e', 'y', '/', 'b', 'a', 'i', 'l', 'e', 'y', 'l', 'a', 'w', '0', '9', '.', 'L', 'a', 'b', 'e', 'l', 'R', 'i', 'g', 'h', 't', 's', ' ', 'b', 'a', 'i', 'l', 'e', 'y', '/', 'b', 'a', 'i', 'l', 'e', 'y', 'l', 'a', 'w', '0', '9', '.', 'L', 'a', 'b', 'e', 'l', 'O', 'w', 'n', 's', ' ', 'b', 'a', 'i', 'l', 'e', 'y', '/', 'b', 'a', 'i', 'l', 'e', 'y', 'l', 'a', 'w', '1', '0', '.', 'F', 'l', 'o', 'w', 'R', 'e', 'a', 'd', 's', ' ', 'b', 'a', 'i', 'l', 'e', 'y', '/', 'b', 'a', 'i', 'l', 'e', 'y', 'l', 'a', 'w', '1', '0', '.', 'F', 'l', 'o', 'w', 'U', 'p', ' ', 'b', 'a', 'i', 'l', 'e', 'y', '/', 'b', 'a', 'i', 'l', 'e', 'y', 'l', 'a', 'w', '1', '0', '.', 'F', 'l', 'o', 'w', 'O', 'w', 'n', 'e', 'r', ' ', 'b', 'a', 'i', 'l', 'e', 'y', '/', 'b', 'a', 'i', 'l', 'e', 'y', 'l', 'a', 'w', '1', '0', '.', 'F', 'l', 'o', 'w', 'M', 'a', 'k', 'e', 's', ' ', 'b', 'a', 'i', 'l', 'e', 'y', '/', 'b', 'a', 'i', 'l', 'e', 'y', 'l', 'a', 'w', '1', '0', '.', 'F', 'l', 'o', 'w', 'T', 'u', 'r', 'n', 's', ' ', 'b', 'a', 'i', 'l', 'e', 'y', '/', 'b', 'a', 'i', 'l', 'e', 'y', 'l', 'a', 'w', '1', '0', '.', 'F', 'l', 'o', 'w', 'E', 'n', 't', 'e', 'r', 's', ' ', 'b', 'a', 'i', 'l', 'e', 'y', '/', 'b', 'a', 'i', 'l', 'e', 'y', 'l', 'a', 'w', '1', '0', '.', 'F', 'l', 'o', 'w', 'G', 'a', 't', 'e', 's', ' ', 'b', 'a', 'i', 'l', 'e', 'y', '/', 'b', 'a', 'i', 'l', 'e', 'y', 'l', 'a', 'w', '1', '7', '.', 'S', 'p', 'a', 'c', 'e', 'N', 'a', 'm', 'e', 's', ' ', 'b', 'a', 'i', 'l', 'e', 'y', '/', 'b', 'a', 'i', 'l', 'e', 'y', 'l', 'a', 'w', '1', '7', '.', 'S', 'p', 'a', 'c', 'e', 'M', 'a', 'p', 's', ' ', 'b', 'a', 'i', 'l', 'e', 'y', '/', 'b', 'a', 'i', 'l', 'e', 'y', 'l', 'a', 'w', '1', '7', '.', 'S', 'p', 'a', 'c', 'e', 'W', 'i', 'n', 'd', 'o', 'w', 's', ' ', 'b', 'a', 'i', 'l', 'e', 'y', '/', 'b', 'a', 'i', 'l', 'e', 'y', 'l', 'a', 'w', '1', '7', '.', 'S', 'p', 'a', 'c', 'e', 'F', 'o', 'u', 'r', ' ', 'b', 'a', 'i', 'l', 'e', 'y', '/', 'b', 'a', 'i', 'l', 'e', 'y', 'l', 'a', 'w', '1', '8', '.', 'G', 'a', 't', 'e', 'N', 'a', 'm', 'e', 's', ' ', 'b', 'a', 'i', 'l', 'e', 'y', '/', 'b', 'a', 'i', 'l', 'e', 'y', 'l', 'a', 'w', '1', '8', '.', 'G', 'a', 't', 'e', 'P', 'a', 's', 's', 'e', 's', ' ', 'b', 'a', 'i', 'l', 'e', 'y', '/', 'b', 'a', 'i', 'l', 'e', 'y', 'l', 'a', 'w', '1', '8', '.', 'G', 'a', 't', 'e', 'M', 'i', 'n', 't', 's', ' ', 'b', 'a', 'i', 'l', 'e', 'y', '/', 'b', 'a', 'i', 'l', 'e', 'y', 'l', 'a', 'w', '1', '8', '.', 'G', 'a', 't', 'e', 'O', 'w', 'n', 's', ' ', 'b', 'a', 'i', 'l', 'e', 'y', '/', 'b', 'a', 'i', 'l', 'e', 'y', 'l', 'a', 'w', '1', '8', '.', 'G', 'a', 't', 'e', 'A', 'p', 'a', 'r', 't', ' ', 'b', 'a', 'i', 'l', 'e', 'y', '/', 'b', 'a', 'i', 'l', 'e', 'y', 'l', 'a', 'w', '1', '1', '.', 'T', 'h', 'i', 'n', 'g', 'N', 'a', 'm', 'e', 's', ' ', 'b', 'a', 'i', 'l', 'e', 'y', '/', 'b', 'a', 'i', 'l', 'e', 'y', 'l', 'a', 'w', '1', '1', '.', 'T', 'h', 'i', 'n', 'g', 'I', 'm', 'a', 'g', 'e', 's', ' ', 'b', 'a', 'i', 'l', 'e', 'y', '/', 'b', 'a', 'i', 'l', 'e', 'y', 'l', 'a', 'w', '1', '1', '.', 'T', 'h', 'i', 'n', 'g', 'R', 'e', 'a', 'd', 's', ' ', 'b', 'a', 'i', 'l', 'e', 'y', '/', 'b', 'a', 'i', 'l', 'e', 'y', 'l', 'a', 'w', '1', '1', '.', 'T', 'h', 'i', 'n', 'g', 'B', 'a', 'c', 'k', ' ', 'b', 'a', 'i', 'l', 'e', 'y', '/', 'b', 'a', 'i', 'l', 'e', 'y', 'l', 'a', 'w', '1', '1', '.', 'T', 'h', 'i', 'n', 'g', 'S', 'i', 'z', 'e', 's', ' ', 'b', 'a', 'i', 'l', 'e', 'y', '/', 'b', 'a', 'i', 'l', 'e', 'y', 'l', 'a', 'w', '1', '1', '.', 'T', 'h', 'i', 'n', 'g', 'R', 'i', 'g', 'h', 't', 's', ' ', 'b', 'a', 'i', 'l', 'e', 'y', '/', 'b', 'a', 'i', 'l', 'e', 'y', 'l', 'a', 'w', '1', '1', '.', 'T', 'h', 'i', 'n', 'g', 'A', 'p', 'a', 'r', 't']
theorem head_is : Try.prog.initOrder = String.ofList (headA ++ ' ' :: (headB ++ ' ' :: (headC ++ ' ' :: headR))) := by kernel_rfl
theorem head_words : behindMainWord (wordsSigns Try.prog.initOrder.toList) = headC :: wordsSigns headR := by
  rw [head_is, String.toList_ofList, ws_word headA (by decide), ws_word headB (by decide), ws_word headC (by decide)]
  have h : ∀ X, behindMainWord (headA :: headB :: headC :: X) = headC :: X := fun X => by kernel_rfl
  exact h _
theorem no_lifts (X : List (List Char)) : stripLifts liftWords (headC :: X) = ([], headC :: X) := by kernel_rfl
theorem some_cut : (some headC == some "cut".toList) = true := by kernel_rfl
theorem not_in (s : String) : ([] : List String).contains s = false := rfl
theorem enters_of (P : Program) (X : List (List Char)) (h : behindMainWord (wordsSigns P.initOrder.toList) = headC :: X) (h1 : P.laysLater = false) (h2 : P.bearsReflect = false) (h3 : P.doorFits [] = true) : P.mayEnter = true := by
  unfold Program.mayEnter
  rw [h]
  simp only [no_lifts, h1, h2, h3, List.head?_cons, some_cut, not_in, Bool.not_false, Bool.or_true, Bool.and_true, Bool.true_and]
theorem lifts_of (P : Program) (X : List (List Char)) (h : behindMainWord (wordsSigns P.initOrder.toList) = headC :: X) : P.headLifts = [] := by
  unfold Program.headLifts
  rw [h]
  simp only [no_lifts, ite_self]
theorem not_carried : (some headC == some "carried".toList) = false := by kernel_rfl
theorem not_gc : (headC == "gc".toList || headC == "spec".toList) = false := by kernel_rfl
theorem finals_of (P : Program) (X : List (List Char)) (h : behindMainWord (wordsSigns P.initOrder.toList) = headC :: X) : P.liftsFinal = false := by
  unfold Program.liftsFinal
  rw [h, lifts_of P X h]
  simp only [List.head?_cons, not_carried, Bool.false_and, Bool.false_or, not_in]
theorem made_of (P : Program) (X : List (List Char)) (h : behindMainWord (wordsSigns P.initOrder.toList) = headC :: X) : P.make = some .cut := by
  unfold Program.make
  rw [h]
  have hc : (headC == "cut".toList) = true := by kernel_rfl
  simp only [not_gc, hc, Bool.true_or, if_true, Bool.false_eq_true, if_false]
theorem enters : Try.prog.mayEnter = true := enters_of _ _ head_words (by kernel_rfl) (by kernel_rfl) (by kernel_rfl)
theorem finals : Try.prog.liftsFinal = false := finals_of _ _ head_words
theorem made : Try.prog.make = some .cut := made_of _ _ head_words
end Go.Proofs.Ytndohmimcbmhdaa

/- Words for memory: a slice that reads as a list; a block that is known whole; append onto a row of the call's own. (Turned from the guide's page of words to copy.) -/
set_option linter.unusedVariables false
set_option linter.unusedSimpArgs false
namespace Go.Proofs.Ytndohmimcbmhdaa
open Go.RowKit

/-- A fact behind a name: no rule of the walk. -/
theorem hid {p : Prop} (h : p) : Hid p := h

theorem block_of_add (a : Addr) (n : Nat) : (a.add n).block = a.block := by unfold Addr.add; split <;> rfl
theorem add_of_add (a : Addr) (i j : Nat) : (a.add i).add j = a.add (i + j) := by
  unfold Addr.add
  by_cases hi : i = 0 <;> by_cases hj : j = 0 <;> simp [hi, hj, Nat.add_assoc]

def Reads (w : World) (B size : Nat) (A : Option Addr) (n : Nat) (xs : List Value) : Prop :=
  xs.length = n * size ∧ (0 < n → ∃ ad, A = some ad ∧ ad.block < B ∧ ∀ j u, xs[j]? = some u → w.cell? (ad.add j) = some u)

section
variable {w w' : World} {B B' size n : Nat} {A : Option Addr} {xs : List Value}
theorem Reads.none_ : Reads w B size A 0 [] := ⟨by simp, fun h => absurd h (by omega)⟩
theorem Reads.at_ {k : Nat} (h : Reads w B 1 A n xs) (hk : k < n) : ∃ ad u, A = some ad ∧ ad.block < B ∧ xs[k]? = some u ∧ w.cell? (ad.add k) = some u := by
  obtain ⟨ad, e, hb, hc⟩ := h.2 (by omega)
  have hl : k < xs.length := by have := h.1; omega
  exact ⟨ad, xs[k], e, hb, List.getElem?_eq_getElem hl, hc k _ (List.getElem?_eq_getElem hl)⟩
theorem Reads.keep (h : Reads w B size A n xs) (hk : ∀ p : Addr, p.block < B → w'.cell? p = w.cell? p) : Reads w' B size A n xs :=
  ⟨h.1, fun hn => by
    obtain ⟨ad, e, hb, hc⟩ := h.2 hn
    exact ⟨ad, e, hb, fun j u hu => (hk _ (by rw [block_of_add]; exact hb)).trans (hc j u hu)⟩⟩
theorem Reads.more (h : Reads w B size A n xs) (hB : B ≤ B') : Reads w B' size A n xs :=
  ⟨h.1, fun hn => by
    obtain ⟨ad, e, hb, hc⟩ := h.2 hn
    exact ⟨ad, e, by omega, hc⟩⟩
theorem Reads.below (h : Reads w B size A n xs) (hb : Below B w w') : Reads w' B size A n xs := h.keep fun _ hp => hb.cell hp
theorem Reads.drew (h : Reads w B size A n xs) : Reads w.drew B size A n xs := h
theorem Reads.drewN (h : Reads w B size A n xs) (k : Nat) : Reads (w.drewN k) B size A n xs := h
theorem Reads.alloc (h : Reads w B size A n xs) (hB : B ≤ w.heap.size) (o : Obj) : Reads (w.alloc o) B size A n xs := h.keep fun p hp => World.cell?_alloc_lt w o p (by omega)
theorem Reads.setCell (h : Reads w B size A n xs) {p : Addr} (hB : B ≤ p.block) (u : Value) : Reads (w.setCell p u) B size A n xs :=
  h.keep fun q hq => World.cell?_setCell_other w p q u (fun e => by subst e; omega)
theorem Reads.grown (h : Reads w B size A n xs) {row : Option Nat} (hg : w.grownBy w' row) (hB : B ≤ w.heap.size) (hr : ∀ g, row = some g → B ≤ g) : Reads w' B size A n xs :=
  h.keep fun p hp => World.cell?_of_block (hg.block p.block (by omega) (fun e => by have := hr _ e.symm; omega))
theorem Reads.cut (h : Reads w B size A n xs) {k cap : Nat} (hk : k ≤ n) (hc : n ≤ cap) :
    Reads w B size (if cap = k then A else A.map (·.add (k * size))) (n - k) (xs.drop (k * size)) := by
  refine ⟨by rw [List.length_drop, h.1, Nat.sub_mul], fun hn => ?_⟩
  obtain ⟨ad, rfl, hb, hcell⟩ := h.2 (by omega)
  rw [if_neg (by omega)]
  refine ⟨ad.add (k * size), rfl, by rw [block_of_add]; exact hb, fun j u hu => ?_⟩
  rw [add_of_add]
  exact hcell _ u (by rw [← hu, List.getElem?_drop])
theorem Reads.of_own {base : Nat} {e : TypeId} {c : Nat} (h : w.ownsRow base e size (.slice A n c) n xs) : Reads w w.heap.size size A n xs := by
  refine ⟨h.1, fun hn => ?_⟩
  obtain ⟨g, cap, hv, _, hlt⟩ := h.form hn
  have hA : A = some ⟨g, 0, none⟩ := by injection hv
  subst hA
  exact ⟨_, rfl, hlt, h.cells (g := g) rfl⟩
end

def Blk (w : World) (g : Nat) (t : TypeId) (cs : Array Value) : Prop := w.heap[g]? = some (.cells cs t (0, 0))

section
variable {w w' : World} {g : Nat} {t : TypeId} {cs : Array Value}
theorem Blk.lt (h : Blk w g t cs) : g < w.heap.size := by
  rcases Nat.lt_or_ge g w.heap.size with hlt | hge
  · exact hlt
  · unfold Blk at h; rw [Array.getElem?_eq_none hge] at h; cases h
theorem Blk.cell (h : Blk w g t cs) (i : Nat) : w.cell? ⟨g, i, none⟩ = cs[i]? := cell_of_row w g i cs t (0, 0) h
theorem Blk.frozen (h : Blk w g t cs) (i : Nat) : w.frozen? ⟨g, i, none⟩ = false := by
  unfold Blk at h
  simp [World.frozen?, h]
theorem Blk.new (w : World) (t : TypeId) (cs : Array Value) : Blk (w.alloc (.cells cs t)) w.heap.size t cs := heap_alloc_new w _
theorem Blk.drew (h : Blk w g t cs) : Blk w.drew g t cs := h
theorem Blk.drewN (h : Blk w g t cs) (n : Nat) : Blk (w.drewN n) g t cs := h
theorem Blk.alloc (h : Blk w g t cs) (o : Obj) : Blk (w.alloc o) g t cs := (Below.heap_alloc w o g h.lt).trans h
theorem Blk.set_ (h : Blk w g t cs) (i : Nat) (u : Value) : Blk (w.setCell ⟨g, i, none⟩ u) g t (cs.setIfInBounds i u) := by
  unfold Blk at h ⊢
  simp [World.setCell, Array.getElem?_modify, h]
theorem Blk.far (h : Blk w g t cs) {p : Addr} (hp : g ≠ p.block) (u : Value) : Blk (w.setCell p u) g t cs := (Below.heap_setCell w p u g hp).trans h
theorem Blk.below {B : Nat} (h : Blk w g t cs) (hb : Below B w w') (hg : g < B) : Blk w' g t cs := (hb.block g hg).trans h
theorem Blk.grown {row : Option Nat} (h : Blk w g t cs) (hb : w.grownBy w' row) (hg : some g ≠ row) : Blk w' g t cs := (hb.block g h.lt hg).trans h
theorem Blk.ne_ {g' : Nat} {t' : TypeId} {cs' : Array Value} (h : Blk w g t cs) (h' : Blk w g' t' cs') (hne : t ≠ t') : g ≠ g' := by
  rintro rfl
  unfold Blk at h h'
  rw [h] at h'
  injection h' with h'
  injection h' with _ ht
  exact hne ht
theorem own_blk_ne {base : Nat} {e : TypeId} {size n : Nat} {v : Value} {xs : List Value} (h : w.ownsRow base e size v n xs) (hg : Blk w g t cs) (hne : e ≠ t) : v.ownBlock ≠ some g := by
  rcases h.2 with ⟨rfl, _⟩ | ⟨g', cap, cur, rfl, _, hh, _⟩
  · simp [Value.ownBlock]
  · intro he
    have : g' = g := by simpa [Value.ownBlock] using he
    subst this
    exact Blk.ne_ (t := e) hh hg hne rfl
end

section
variable {P : Program} (w : World)

theorem run_append_of_nil (base : Nat) (t ty e : TypeId) (i : TypeInfo) (size : Nat) (ht : P.underlying t = some (.slice e)) (hi : P.info? e = some i)
    (v : Value) (n : Nat) (xs : List Value) (hown : w.ownsRow base e size v n xs) (c : Nat) : (Builtin.append_ #[t, t] ty #[v, .slice none 0 c]).run P w = .ok v w := by
  rcases hown.2 with ⟨rfl, rfl⟩ | ⟨g, cap, cur, rfl, _, _, hnc, _⟩
  · simp [Builtin.append_, run_underlying ht, sizeOf, typeInfo, hi, Builtin.lenOf, Builtin.firstCells]
  · simp [Builtin.append_, run_underlying ht, sizeOf, typeInfo, hi, Builtin.lenOf, Builtin.firstCells, hnc, storeCells]

theorem run_append_any (base : Nat) (t ty e : TypeId) (i : TypeInfo) (z : Value) (size bytes : Nat) (ht : P.underlying t = some (.slice e)) (hi : P.info? e = some i) (hz : i.zero = some z)
    (hsize : i.size = size) (hby : i.bytes = bytes) (hzs : z.cells.size = size) (hsz : 0 < size)
    (v : Value) (n : Nat) (xs : List Value) (hown : w.ownsRow base e size v n xs)
    (B : Nat) (A : Option Addr) (m c : Nat) (news : List Value) (hr : Reads w B size A m news) (h1 : ∀ u ∈ news, u.oneCell' = true)
    (h63 : n + m ≤ maxLen) (hbytes : (n + m) * bytes ≤ 140737488355328) (hbase : base ≤ w.heap.size) :
    ∃ v' w', (Builtin.append_ #[t, t] ty #[v, .slice A m c]).run P w = .ok v' w' ∧ w'.ownsRow base e size v' (n + m) (xs ++ news) ∧ w.grownBy w' v.ownBlock ∧
      (v'.ownBlock = v.ownBlock ∨ v'.ownBlock = some w.heap.size) := by
  rcases A with _ | ad
  · have hm : m = 0 := by
      rcases Nat.eq_zero_or_pos m with h0 | h0
      · exact h0
      · obtain ⟨ad, h, _⟩ := hr.2 h0
        cases h
    subst hm
    have hn : news = [] := List.eq_nil_of_length_eq_zero (by simpa using hr.1)
    subst hn
    exact ⟨v, w, run_append_of_nil w base t ty e i size ht hi v n xs hown c, by simpa using hown, World.grownBy.refl w _, .inl rfl⟩
  · have hcells : ∀ j u, news[j]? = some u → w.cell? (ad.add j) = some u := by
      intro j u hu
      rcases Nat.eq_zero_or_pos m with h0 | h0
      · subst h0
        have hn : news = [] := List.eq_nil_of_length_eq_zero (by simpa using hr.1)
        subst hn
        simp at hu
      · obtain ⟨ad', h, _, hc⟩ := hr.2 h0
        injection h with h
        subst h
        exact hc j u hu
    obtain ⟨v', w', hrun, h2, h3, _, h5⟩ := run_append_own_at (P := P) w base t ty e i z size bytes ht hi hz hsize hby hzs hsz v n xs hown ad m c news hr.1 hcells h1 h63 hbytes hbase
    exact ⟨v', w', hrun, h2, h3, h5⟩

theorem wp_append_any {o : Oper} {a : Act} {K : Act → World → Prop} {Q : Exit → Act → World → Prop} (s x : Operand) (t : TypeId)
    (ho : o.op = .call { callee := .builtin .append, args := #[s, x], argTypes := #[t, t] })
    (base : Nat) (e : TypeId) (i : TypeInfo) (z : Value) (size bytes : Nat) (ht : P.underlying t = some (.slice e)) (hi : P.info? e = some i) (hz : i.zero = some z)
    (hsize : i.size = size) (hby : i.bytes = bytes) (hzs : z.cells.size = size) (hsz : 0 < size)
    (v : Value) (n : Nat) (xs : List Value) (hs : a.eval s = v) (hown : w.ownsRow base e size v n xs)
    (B : Nat) (A : Option Addr) (m c : Nat) (news : List Value) (hx : a.eval x = .slice A m c) (hr : Reads w B size A m news) (h1 : ∀ u ∈ news, u.oneCell' = true)
    (h63 : n + m ≤ maxLen) (hbytes : (n + m) * bytes ≤ 140737488355328) (hbase : base ≤ w.heap.size)
    (h : ∀ v' w', w'.ownsRow base e size v' (n + m) (xs ++ news) → w.grownBy w' v.ownBlock → (v'.ownBlock = v.ownBlock ∨ v'.ownBlock = some w.heap.size) → K (a.put o.dst v') w') : o.wp P a w K Q := by
  obtain ⟨v', w', hrun, h2, h3, h4⟩ := run_append_any (P := P) w base t o.type e i z size bytes ht hi hz hsize hby hzs hsz v n xs hown B A m c news hr h1 h63 hbytes hbase
  unfold Oper.wp execOp
  simp only [ho, resolve, invoke, builtin, Sem.run_bind, Sem.run_pure, Result.andThen_ok, List.map_toArray, List.map_cons, List.map_nil, hs, hx, hrun]
  exact h v' w' h2 h3 h4

theorem wpList_append_any {ops : Array Oper} {rest : List Oper} {o : Oper} {a : Act} {Q : Exit → Act → World → Prop} (hgd : o.guard = none) (s x : Operand) (t : TypeId)
    (ho : o.op = .call { callee := .builtin .append, args := #[s, x], argTypes := #[t, t] })
    (base : Nat) (e : TypeId) (i : TypeInfo) (z : Value) (size bytes : Nat) (ht : P.underlying t = some (.slice e)) (hi : P.info? e = some i) (hz : i.zero = some z)
    (hsize : i.size = size) (hby : i.bytes = bytes) (hzs : z.cells.size = size) (hsz : 0 < size)
    (v : Value) (n : Nat) (xs : List Value) (hs : a.eval s = v) (hown : w.ownsRow base e size v n xs)
    (B : Nat) (A : Option Addr) (m c : Nat) (news : List Value) (hx : a.eval x = .slice A m c) (hr : Reads w B size A m news) (h1 : ∀ u ∈ news, u.oneCell' = true)
    (h63 : n + m ≤ maxLen) (hbytes : (n + m) * bytes ≤ 140737488355328) (hbase : base ≤ w.heap.size)
    (h : ∀ v' w', w'.ownsRow base e size v' (n + m) (xs ++ news) → w.grownBy w' v.ownBlock → (v'.ownBlock = v.ownBlock ∨ v'.ownBlock = some w.heap.size) → wpList P ops Q rest (a.put o.dst v') w') : wpList P ops Q (o :: rest) a w :=
  wpList_plain hgd fun _ hK => wp_append_any w s x t ho base e i z size bytes ht hi hz hsize hby hzs hsz v n xs hs hown B A m c news hx hr h1 h63 hbytes hbase fun v' w' h2 h3 h4 => hK _ _ (h v' w' h2 h3 h4)

theorem step_append_any {ops : Array Oper} {o : Oper} {a : Act} {K : Act → World → Prop} {Q : Exit → Act → World → Prop} {E : Prop} (hgd : o.guard = none) (s x : Operand) (t : TypeId)
    (ho : o.op = .call { callee := .builtin .append, args := #[s, x], argTypes := #[t, t] })
    (base : Nat) (e : TypeId) (i : TypeInfo) (z : Value) (size bytes : Nat) (ht : P.underlying t = some (.slice e)) (hi : P.info? e = some i) (hz : i.zero = some z)
    (hsize : i.size = size) (hby : i.bytes = bytes) (hzs : z.cells.size = size) (hsz : 0 < size)
    (v : Value) (n : Nat) (xs : List Value) (hs : a.eval s = v) (hown : w.ownsRow base e size v n xs)
    (B : Nat) (A : Option Addr) (m c : Nat) (news : List Value) (hx : a.eval x = .slice A m c) (hr : Reads w B size A m news) (h1 : ∀ u ∈ news, u.oneCell' = true)
    (h63 : n + m ≤ maxLen) (hbytes : (n + m) * bytes ≤ 140737488355328) (hbase : base ≤ w.heap.size)
    (h : ∀ v' w', w'.ownsRow base e size v' (n + m) (xs ++ news) → w.grownBy w' v.ownBlock → (v'.ownBlock = v.ownBlock ∨ v'.ownBlock = some w.heap.size) → K (a.put o.dst v') w') :
    if Region.wanted o (yielded ops a.tmps) = true then Oper.wp P o a w K Q else E := by
  have hw : Region.wanted o (yielded ops a.tmps) = true := by simp [Region.wanted, hgd]
  rw [if_pos hw]
  exact wp_append_any w s x t ho base e i z size bytes ht hi hz hsize hby hzs hsz v n xs hs hown B A m c news hx hr h1 h63 hbytes hbase h
end

end Go.Proofs.Ytndohmimcbmhdaa
