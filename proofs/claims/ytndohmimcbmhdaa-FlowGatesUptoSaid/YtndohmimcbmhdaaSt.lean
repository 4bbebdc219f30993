/- label.Set. -/
import Derived.Test.YtndohmimcbmhdaaKp
set_option linter.unusedVariables false
set_option linter.unusedSimpArgs false
namespace Go.Proofs.Ytndohmimcbmhdaa
open Go.RowKit Go.Sort

set_option maxHeartbeats 2000000 in
set_option maxRecDepth 100000 in
theorem set49 (w : World) (d id lv : Int) (A : Option Addr) (n c : Nat) (cs : List (Int × Int)) (h : CatsAt w w.heap.size A n c cs) (hn : n + 1 ≤ 8796093022208) :
    Calls Try.prog 49 #[.agg #[.int .i64 d, .slice A n c], .int .u64 id, .int .i64 lv] w fun e w' => Made d ((id, lv) :: cs) w e w' := by
  have mixed : Try.prog.follows .mixedOrders = true := by kernel_rfl
  obtain ⟨i0, hi0, hz0, hz1, hz2⟩ := info_parts cat_info
  obtain ⟨q1, q2, q3⟩ := two_blk w #[.int .i64 d, .slice A n c] #[.int .i64 0, .slice none 0 0] 26 26
  have HB := hid q1
  have HP1 := hid q2
  have HP2 := hid q3
  have HC := hid ((h.below q1).more q1.size)
  have HLN := hid h.len
  clear h q1 q2 q3
  go_enter Try.func49, Try.ntmps49
  go_wp2_with fail
  generalize (w.alloc (.cells #[.int .i64 d, .slice A n c] 26)).alloc (.cells #[.int .i64 0, .slice none 0 0] 26) = wa at *
  have HF : Hid (∀ W, Since wa W → W.cell? ⟨w.heap.size, 0, none⟩ = some (.int .i64 d) ∧ W.cell? ⟨w.heap.size, 1, none⟩ = some (.slice A n c)) := by
    intro W hW
    have r := hW.blk HP1.out (fun h => h)
    exact ⟨(Blk.cell r 0).trans rfl, (Blk.cell r 1).trans rfl⟩
  have hS : Since wa wa := But.refl _ _
  obtain ⟨f1, f2⟩ := HF.out wa hS
  have hR : Reads (wa.drew.alloc (.cells #[.int .u64 id, .int .i64 lv] 32)) wa.heap.size 2 A n (flat cs) := ((HC.out.reads).drew).alloc (Nat.le_refl _) _
  have HR := hid hR
  have HO := hid (World.ownsRow_lit (base := wa.heap.size) (e := 32) (size := 2) wa.drew #[.int .u64 id, .int .i64 lv] 1 (Nat.le_refl _) (by unfold maxLen; omega) rfl)
  clear hR
  go_region_held3 (fun w' => w'.cell? ⟨w.heap.size, 0, none⟩ = some (.int .i64 d) ∧ w'.cell? ⟨w.heap.size, 1, none⟩ = some (.slice A n c))
    (first | go_keep | exact HF.out _ (by assumption))
    (first
      | (refine step_append_any _ rfl (.tmp 12) (.tmp 14) _ rfl wa.heap.size 32 i0 _ 2 16 Try.underlying23 hi0 hz0 hz1 hz2 rfl (by omega) _ 1 [.int .u64 id, .int .i64 lv] rfl HO.out wa.heap.size A n c (flat cs) rfl HR.out (flat_one cs) (by unfold maxLen; omega) (by omega) (by show wa.heap.size ≤ (wa.alloc _).heap.size; simp) ?_; intro v1 w1 hown hg hat; have hs1 : Since wa w1 := own_since ((But.refl _ wa).drew.alloc _) hg (fun g e => (World.ownsRow.lt HO.out g e).1); have hv1 : OwnCats w1 wa.heap.size v1 ((id, lv) :: cs) := OwnCats.of_own (by rw [List.length_cons, HLN.out, Nat.add_comm]; exact hown); obtain ⟨A1, n1, c1, rfl, hT1⟩ := hv1.at_; have HT1 := hid hT1; clear hv1 hown hg hat hT1)
      | (go_at_call 34; refine (make34 w1 d A1 n1 c1 ((id, lv) :: cs) HT1.out (by have q1 := HT1.out.len; have q2 := HLN.out; rw [List.length_cons] at q1; omega)).mono ?_; rintro e w2 ⟨v, F, rfl, hv, hF, hb⟩; obtain ⟨A2, n2, c2, rfl, _⟩ := hv.at_; have hs2 : Since wa w2 := since_then hs1 hb; have HK := hid (hs2.blk HP2.out (fun h => h)); obtain ⟨⟨z0, z1⟩, z2, z3⟩ := label_zero HK.out; have HV := hid hv; have HFF := hid hF; clear hv hF hb))
  go_wp2_with fail
  refine bodyPost_ret (label_run (label_put HK.out _ _) rfl _ rfl) rfl ?_
  exact made_end HV.out HFF.out (by omega) (Nat.lt_of_lt_of_le HP2.out.lt hs1.size) (HB.out.trans (since_below hs2 HB.out.size))
end Go.Proofs.Ytndohmimcbmhdaa
