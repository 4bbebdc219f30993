/- The chapter's example. -/
import Derived.Test.YtpobkbedablfeaaTick
namespace Go.Proofs.Ytpobkbedablfeaa
open Go.RowKit

theorem belowT {a b c : World} (h : Below a.heap.size a b) (k : Below b.heap.size b c) : Below a.heap.size a c := h.trans (k.mono h.size)
theorem th_len (t : Th) : t.cells.length = 26 := rfl
theorem flat_get : ∀ (ts : List Th) (i : Nat) (t : Th), ts[i]? = some t → ∀ (j : Nat) (v : Value), t.cells[j]? = some v → (ts.flatMap Th.cells)[i * 26 + j]? = some v := by
  intro ts
  induction ts with
  | nil => intro i t h; simp at h
  | cons s ts ih =>
    intro i t h j v hv
    cases i with
    | zero =>
      simp at h
      subst h
      have hj : j < s.cells.length := (List.getElem?_eq_some_iff.1 hv).1
      rw [List.flatMap_cons, Nat.zero_mul, Nat.zero_add, List.getElem?_append_left hj]
      exact hv
    | succ i =>
      rw [List.flatMap_cons, List.getElem?_append_right (by rw [th_len]; omega), th_len]
      rw [show (i + 1) * 26 + j - 26 = i * 26 + j by omega]
      exact ih i t (by simpa using h) j v hv

theorem ThingsAt.of_blk {w : World} {g : Nat} {ts : List Th} (h : Blk w g 59 (ts.flatMap Th.cells).toArray) (hm : ts.length ≤ 1000) : ThingsAt w w.heap.size (some ⟨g, 0, none⟩) ts.length ts.length ts := by
  refine ⟨rfl, Nat.le_refl _, by simp only [maxLen]; omega, fun _ => ⟨g, 0, rfl, h.lt, fun i t ht j v hv => ?_⟩⟩
  rw [Blk.cell h]
  simp only [List.getElem?_toArray, Nat.zero_add]
  exact flat_get ts i t ht j v hv

def no : Sl := ⟨none, 0, 0⟩
def startT (b : Nat) : List Th :=
  [⟨1, 1, 2, no, 0, no, 9, 2, ⟨some ⟨b, 0, none⟩, 2, 2⟩, no, 0, 0, 0, 0, 0, 0, false, 0, 0, 0, 0, 0, 0, 0, 0, 0⟩,
   ⟨65, 6, 2, no, 0, no, 1, 0, no, no, 0, 0, 0, 0, 0, 0, false, 0, 0, 0, 0, 0, 0, 0, 0, 0⟩,
   ⟨66, 2, 2, no, 2, no, 1, 0, no, no, 0, 0, 0, 0, 0, 0, false, 0, 0, 0, 0, 0, 0, 0, 0, 0⟩]
theorem start_live (b : Nat) : liveL (startT b) = [66] := rfl

/-- What World hands back. -/
def Begun (w : World) (e : Ending) (w' : World) : Prop :=
  ∃ A ts, e = .returned (.tuple #[.slice A 3 3, .int .i64 0]) ∧ ThingsAt w' w'.heap.size A 3 3 ts ∧ liveL ts = [66] ∧ Below w.heap.size w w'

set_option maxHeartbeats 2000000 in
theorem world37 (w : World) : Calls Try.prog 37 #[.int .i64 9] w fun e w' => Begun w e w' := by
  go_enter Try.func37, Try.ntmps37
  go_wp2_with fail
  go_ret2
  refine ⟨_, startT (w.heap.size + 1), rfl, ThingsAt.of_blk (ts := startT (w.heap.size + 1)) ?_ (by show 3 ≤ 1000; omega), rfl, ?_⟩
  · have h := Blk.new ((w.alloc (Obj.cells #[Value.int IntKind.i64 2, Value.slice none 0 0] 51)).alloc (Obj.cells #[Value.int IntKind.u64 65, Value.int IntKind.i64 1, Value.int IntKind.u64 66, Value.int IntKind.i64 1] 67)) 59 ((startT (w.heap.size + 1)).flatMap Th.cells).toArray
    have e : ((w.alloc (Obj.cells #[Value.int IntKind.i64 2, Value.slice none 0 0] 51)).alloc (Obj.cells #[Value.int IntKind.u64 65, Value.int IntKind.i64 1, Value.int IntKind.u64 66, Value.int IntKind.i64 1] 67)).heap.size = w.heap.size + 1 + 1 := by simp
    rw [e] at h
    exact h
  · exact (((Below.refl _ w).alloc (Nat.le_refl _) _).alloc (by simp) _).alloc (by simp; omega) _

set_option maxHeartbeats 1000000 in
theorem alive22 (w : World) : Calls Try.prog 22 #[] w fun e w' => e = .returned (.bool true) ∧ Below w.heap.size w w' := by
  have t1 : tickN 1 2 = 0 := by decide
  have t2 : tickB 1 2 = true := by decide
  have u1 : turnL [66] 5 = 66 := by decide
  go_enter Try.func22, Try.ntmps22
  go_wp2_with fail
  refine (world37 w).mono ?_
  rintro e w1 ⟨A, ts, rfl, hT, hl, hb⟩
  have HT := hidI hT
  have HL := hidI hl
  have HB := hidI hb
  clear hT hl hb
  go_wp2_with (go_at_call 21; refine (tick21 _ _ _ (by omega) (by omega) (by omega) (by omega)).mono ?_; rintro e w' ⟨rfl, rfl⟩)
  refine (turn23 w1 A 3 3 ts 5 HT.out (by omega) (by omega) (by omega)).mono ?_
  rintro e w2 ⟨rfl, hb2⟩
  rw [HL.out, u1]
  have HB2 := hidI hb2
  clear hb2
  go_wp2_with fail
  refine (runs28 w2 A 3 3 ts 66 ((HT.out.below HB2.out).more HB2.out.size) (by omega)).mono ?_
  rintro e w3 ⟨rfl, hb3⟩
  rw [HL.out]
  have e1 : ([66] : List Int).any (fun y => 66 == y) = true := by decide
  rw [e1]
  have HB3 := hidI hb3
  clear hb3
  go_wp2_with fail
  refine (runs28 w3 A 3 3 ts 65 ((((HT.out.below HB2.out).more HB2.out.size).below HB3.out).more HB3.out.size) (by omega)).mono ?_
  rintro e w4 ⟨rfl, hb4⟩
  rw [HL.out]
  have e2 : ([66] : List Int).any (fun y => 65 == y) = false := by decide
  rw [e2]
  have HB4 := hidI hb4
  clear hb4
  go_wp2_with fail
  go_ret
  exact ⟨rfl, belowT (belowT (belowT HB.out HB2.out) HB3.out) HB4.out⟩
end Go.Proofs.Ytpobkbedablfeaa
