/- Labels by their lists: what label's functions hand back. -/
import Derived.Test.YtndohmimcbmhdaaFr
set_option linter.unusedVariables false
set_option linter.unusedSimpArgs false
namespace Go.Proofs.Ytndohmimcbmhdaa
open Go.RowKit Go.Sort

/-- A value that reads as a label. -/
def LabR (d : Int) (F : List (Int × Int)) (W : World) (v : Value) : Prop := ∃ A n c, v = .agg #[.int .i64 d, .slice A n c] ∧ CatsAt W W.heap.size A n c F
theorem LabR.below {d : Int} {F : List (Int × Int)} {w W : World} {v : Value} (h : LabR d F w v) (hb : Below w.heap.size w W) : LabR d F W v := by
  obtain ⟨A, n, c, e, hT⟩ := h
  exact ⟨A, n, c, e, (hT.below hb).more hb.size⟩
theorem LabR.stable {d : Int} {F : List (Int × Int)} {w : World} : (Leaves.rel (LabR d F)).stable nil_ w := fun W W' u _ hb h => h.below (since_below hb (Nat.le_refl _))
def RetLab (d : Int) (F : List (Int × Int)) (w : World) (e : Ending) (w' : World) : Prop := ∃ v, e = .returned v ∧ LabR d F w' v ∧ Below w.heap.size w w'

/-- The same, its categories in memory of the call's own. -/
def RetOwn (d : Int) (F : List (Int × Int)) (w : World) (e : Ending) (w' : World) : Prop := ∃ A n c, e = .returned (.agg #[.int .i64 d, .slice A n c]) ∧ OwnCats w' w.heap.size (.slice A n c) F ∧ Below w.heap.size w w'
theorem own_at {w : World} {B : Nat} {A : Option Addr} {n c : Nat} {F : List (Int × Int)} (h : OwnCats w B (.slice A n c) F) : CatsAt w w.heap.size A n c F := by
  obtain ⟨A', n', c', e, hT⟩ := h.at_
  injection e with e1 e2 e3
  subst e1 e2 e3
  exact hT
theorem RetOwn.lab {d : Int} {F : List (Int × Int)} {w w' : World} {e : Ending} (h : RetOwn d F w e w') : RetLab d F w e w' := by
  obtain ⟨A, n, c, he, hv, hb⟩ := h
  exact ⟨_, he, ⟨A, n, c, rfl, own_at hv⟩, hb⟩
theorem IsForm.is {d : Int} {cs F : List (Int × Int)} (h : IsForm d cs F) : F = formL d cs := h.unique (formL_is d cs)
theorem made_own {d : Int} {cs : List (Int × Int)} {w w' : World} {e : Ending} (h : Made d cs w e w') : RetOwn d (formL d cs) w e w' := by
  obtain ⟨v, F, he, hv, hF, hb⟩ := h
  obtain ⟨A, n, c, rfl, hT⟩ := hv.at_
  obtain rfl := hF.is
  exact ⟨A, n, c, he, hv, hb⟩
theorem made_lab {d : Int} {cs : List (Int × Int)} {w w' : World} {e : Ending} (h : Made d cs w e w') : RetLab d (formL d cs) w e w' := by
  obtain ⟨v, F, he, hv, hF, hb⟩ := h
  obtain ⟨A, n, c, rfl, hT⟩ := hv.at_
  obtain rfl := hF.is
  exact ⟨_, he, ⟨A, n, c, rfl, hT⟩, hb⟩

def raiseL (d : Int) (cs : List (Int × Int)) : List (Int × Int) := formL (turnF 0 5 d d) (mergeL (turnF 0 5) d cs d cs)
def lowerL (d : Int) (cs : List (Int × Int)) : List (Int × Int) := formL (turnF 5 0 d d) (mergeL (turnF 5 0) d cs d cs)
def joinL (d : Int) (cs : List (Int × Int)) (d' : Int) (cs' : List (Int × Int)) : List (Int × Int) := formL (max d d') (mergeL (fun x y => max x y) d cs d' cs')
def meetL (d : Int) (cs : List (Int × Int)) (d' : Int) (cs' : List (Int × Int)) : List (Int × Int) := formL (min d d') (mergeL (fun x y => min x y) d cs d' cs')

section
variable (w : World) (d d' : Int) (A A' : Option Addr) (n c n' c' : Nat) (cs cs' : List (Int × Int))
theorem make34_l (h : CatsAt w w.heap.size A n c cs) (hn : n ≤ 8796093022208) : Calls Try.prog 34 #[.int .i64 d, .slice A n c] w fun e w' => RetLab d (formL d cs) w e w' :=
  (make34 w d A n c cs h hn).mono fun _ _ h => made_lab h
theorem raise46_l (h : CatsAt w w.heap.size A n c cs) (hn : n ≤ 4398046511104) : Calls Try.prog 46 #[.agg #[.int .i64 d, .slice A n c]] w fun e w' => RetLab (turnF 0 5 d d) (raiseL d cs) w e w' :=
  (raise46 w d A n c cs h (by omega)).mono fun _ _ h => made_lab h
theorem lower48_l (h : CatsAt w w.heap.size A n c cs) (hn : n ≤ 4398046511104) : Calls Try.prog 48 #[.agg #[.int .i64 d, .slice A n c]] w fun e w' => RetLab (turnF 5 0 d d) (lowerL d cs) w e w' :=
  (lower48 w d A n c cs h (by omega)).mono fun _ _ h => made_lab h
theorem join43_l (h : CatsAt w w.heap.size A n c cs) (h' : CatsAt w w.heap.size A' n' c' cs') (hn : n + n' ≤ 8796093022208) :
    Calls Try.prog 43 #[.agg #[.int .i64 d, .slice A n c], .agg #[.int .i64 d', .slice A' n' c']] w fun e w' => RetLab (max d d') (joinL d cs d' cs') w e w' :=
  (join43 w d d' A A' n c n' c' cs cs' h h' hn).mono fun _ _ h => made_lab h
theorem meet44_l (h : CatsAt w w.heap.size A n c cs) (h' : CatsAt w w.heap.size A' n' c' cs') (hn : n + n' ≤ 8796093022208) :
    Calls Try.prog 44 #[.agg #[.int .i64 d, .slice A n c], .agg #[.int .i64 d', .slice A' n' c']] w fun e w' => RetLab (min d d') (meetL d cs d' cs') w e w' :=
  (meet44 w d d' A A' n c n' c' cs cs' h h' hn).mono fun _ _ h => made_lab h
theorem set49_l (id lv : Int) (h : CatsAt w w.heap.size A n c cs) (hn : n + 1 ≤ 8796093022208) :
    Calls Try.prog 49 #[.agg #[.int .i64 d, .slice A n c], .int .u64 id, .int .i64 lv] w fun e w' => RetLab d (formL d ((id, lv) :: cs)) w e w' :=
  (set49 w d id lv A n c cs h hn).mono fun _ _ h => made_lab h
end
/-- How long they are at most. -/
theorem formL_len (d : Int) (cs : List (Int × Int)) : (formL d cs).length ≤ cs.length := (formL_is d cs).less
theorem mergeL_len (f : Int → Int → Int) (d : Int) (cs : List (Int × Int)) (d' : Int) (cs' : List (Int × Int)) : (mergeL f d cs d' cs').length = cs.length + cs'.length := by unfold mergeL; rw [List.length_map, List.length_append]

/-- A label handed back out of its cells. -/
theorem lab_end {w w3 : World} {r B : Nat} {d : Int} {F : List (Int × Int)} {A : Option Addr} {n c : Nat} {x y : Value} (hT : CatsAt w3 B A n c F) (hr : w.heap.size ≤ r) (hB : B ≤ r) (hBs : B ≤ w3.heap.size) (hb : Below w.heap.size w w3) :
    RetLab d F w (.returned (.agg #[.int .i64 d, .slice A n c])) ((w3.setCell ⟨r, 0, none⟩ x).setCell ⟨r, 1, none⟩ y) := by
  have hk : Below B w3 ((w3.setCell ⟨r, 0, none⟩ x).setCell ⟨r, 1, none⟩ y) := ((Below.refl B w3).setCell (p := ⟨r, 0, none⟩) hB _).setCell (p := ⟨r, 1, none⟩) hB _
  exact ⟨_, rfl, ⟨A, n, c, rfl, (hT.below hk).more (Nat.le_trans hBs hk.size)⟩, (hb.setCell (p := ⟨r, 0, none⟩) hr _).setCell (p := ⟨r, 1, none⟩) hr _⟩
theorem lab_own_end {w w3 : World} {r B : Nat} {d : Int} {F : List (Int × Int)} {A : Option Addr} {n c : Nat} {x y : Value} (hv : OwnCats w3 B (.slice A n c) F) (hr : w.heap.size ≤ r) (hB : r < B) (hb : Below w.heap.size w w3) :
    RetOwn d F w (.returned (.agg #[.int .i64 d, .slice A n c])) ((w3.setCell ⟨r, 0, none⟩ x).setCell ⟨r, 1, none⟩ y) :=
  ⟨A, n, c, rfl, ((hv.far (p := ⟨r, 0, none⟩) hB x).far (p := ⟨r, 1, none⟩) hB y).mono (by omega), (hb.setCell (p := ⟨r, 0, none⟩) hr _).setCell (p := ⟨r, 1, none⟩) hr _⟩
end Go.Proofs.Ytndohmimcbmhdaa
