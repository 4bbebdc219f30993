/- slices.Grow of nil, slices.Concat of two. -/
import Derived.Test.YtndohmimcbmhdaaLeq
import Derived.Lib.AppendZerosOnto
import Derived.Lib.SliceRun
import Derived.Lib.Walk
set_option linter.unusedVariables false
set_option linter.unusedSimpArgs false
namespace Go.Proofs.Ytndohmimcbmhdaa
open Go.RowKit Go.Sort

def GrownRow (w : World) (e : Ending) (w' : World) : Prop := ∃ v, e = .returned v ∧ w'.ownsRow w.heap.size 32 2 v 0 [] ∧ Below w.heap.size w w'

set_option maxHeartbeats 1000000 in
set_option maxRecDepth 100000 in
theorem grow170 (w : World) (k : Nat) (hk : k ≤ 8796093022208) : Calls Try.prog 170 #[.slice none 0 0, .int .i64 k] w fun e w' => GrownRow w e w' := by
  rcases Nat.eq_zero_or_pos k with rfl | h0
  · go_enter Try.func170, Try.ntmps170
    go_wp2_with fail
    go_ret
    exact ⟨_, rfl, World.ownsRow_nil _ _ _ _, Below.refl _ _⟩
  · obtain ⟨i0, hi0, hz0, hz1, hz2⟩ := info_parts cat_info
    have hk1 : ¬ (k : Int) < 0 := by omega
    have hk2 : (0 : Int) < (k : Int) := by omega
    have hrz : ∀ ty, (Builtin.append_ #[23, 3] ty #[.slice none 0 0, .int .i64 (k : Int)]).run Try.prog w =
        .ok (.slice (some ⟨w.heap.size, 0, none⟩) k (grownCap w k 0 32)) (w.drew.alloc (.cells ((#[] : Array Value) ++ Builtin.zeroCells (Value.agg #[.int .u64 0, .int .i64 0]).cells k ++ Builtin.zeroCells (Value.agg #[.int .u64 0, .int .i64 0]).cells (grownCap w k 0 32 - k)) 32)) := fun ty => by
      have h := Lib.run_append_grow_zeros w 23 3 ty 32 i0 _ .i64 .i64 Try.underlying23 Try.underlying3 hi0 hz0 none 0 0 [] (run_firstCells_none w.drew i0.size 0 0 0) k h0 (by omega) (by omega) (by omega) (by rw [hz2]; omega)
        (by rw [Nat.zero_add]; exact growslice_fits (by omega) (by rw [hz2]; omega))
      simpa using h
    have hG := grownCap_ge w k 0 32
    have hG2 := grownCap_le_maxLen w k 0 32 (by unfold maxLen; omega)
    obtain ⟨G, hGG⟩ : ∃ G, G = grownCap w k 0 32 := ⟨_, rfl⟩
    rw [← hGG] at hrz hG hG2
    have hsz : ((#[] : Array Value) ++ Builtin.zeroCells (Value.agg #[.int .u64 0, .int .i64 0]).cells k ++ Builtin.zeroCells (Value.agg #[.int .u64 0, .int .i64 0]).cells (G - k)).size = G * 2 := by
      simp [Builtin.zeroCells, Value.cells]; omega
    generalize (#[] : Array Value) ++ Builtin.zeroCells (Value.agg #[.int .u64 0, .int .i64 0]).cells k ++ Builtin.zeroCells (Value.agg #[.int .u64 0, .int .i64 0]).cells (G - k) = arr at *
    have HSZ := hid hsz
    have HG2 := hid hG2
    have hGz : (0 : Int) ≤ (G : Int) := by omega
    clear hGG hsz hG2
    go_enter Try.func170, Try.ntmps170
    go_wp2_with (at_builtin; refine Lib.wpList_append_run _ rfl _ _ _ _ rfl _ _ rfl rfl _ _ (hrz _) ?_)
    go_ret
    exact ⟨_, rfl, World.ownsRow_made w.drew arr G (Nat.le_refl _) HG2.out HSZ.out, (Below.refl _ w).drew.alloc (Nat.le_refl _) _⟩

def CatSum (n m : Nat) (vi vs : Value) : Prop := (vi = .int .i64 0 ∧ vs = .int .i64 0) ∨ (vi = .int .i64 1 ∧ vs = .int .i64 n) ∨ (vi = .int .i64 2 ∧ vs = .int .i64 m)
def CatRow (w : World) (cs cs' : List (Int × Int)) (vi v : Value) (wr : World) : Prop :=
  Below w.heap.size w wr ∧ ((vi = .int .i64 0 ∧ wr.ownsRow w.heap.size 32 2 v 0 []) ∨ (vi = .int .i64 1 ∧ wr.ownsRow w.heap.size 32 2 v cs.length (flat cs)) ∨ (vi = .int .i64 2 ∧ wr.ownsRow w.heap.size 32 2 v (cs.length + cs'.length) (flat cs ++ flat cs')))
def Concatted (w : World) (cs : List (Int × Int)) (e : Ending) (w' : World) : Prop := ∃ v, e = .returned v ∧ OwnCats w' w.heap.size v cs ∧ Below w.heap.size w w'

set_option maxHeartbeats 2000000 in
set_option maxRecDepth 100000 in
theorem concat151 (w : World) (b : Nat) (A A' : Option Addr) (n c n' c' : Nat) (cs cs' : List (Int × Int)) (hb : Blk w b 23 #[.slice A n c, .slice A' n' c']) (h : CatsAt w w.heap.size A n c cs) (h' : CatsAt w w.heap.size A' n' c' cs') (hn : n + n' ≤ 8796093022208) :
    Calls Try.prog 151 #[.slice (some ⟨b, 0, none⟩) 2 2] w fun e w' => Concatted w (cs ++ cs') e w' := by
  obtain ⟨i0, hi0, hz0, hz1, hz2⟩ := info_parts cat_info
  obtain ⟨m, hm⟩ : ∃ m, n + n' = m := ⟨_, rfl⟩
  have hmz : (n : Int) + (n' : Int) = (m : Int) := by omega
  have HMZ := hid hmz
  have b0 : w.cell? ⟨b, 0, none⟩ = some (.slice A n c) := (Blk.cell hb 0).trans rfl
  have b1 : w.cell? ⟨b, 1, none⟩ = some (.slice A' n' c') := (Blk.cell hb 1).trans rfl
  have H := hid h
  have H' := hid h'
  have HBK := hid hb
  have hl := hid h.len
  have hl' := hid h'.len
  clear h h' hb hmz
  go_enter Try.func151, Try.ntmps151
  go_wp2_with fail
  go_loopw [3, 11] (fun vs vi wr => Hid (CatSum n m vi vs) ∧ Hid (w = wr)) (fun _ vi _ => 2 - (intOf vi).toNat)
  case atStart => exact ⟨.inl ⟨rfl, rfl⟩, (rfl : w = w)⟩
  case round =>
    obtain ⟨CS, EW⟩ := hrel
    have ew : w = wr := EW
    subst ew
    rcases CS with ⟨rfl, rfl⟩ | ⟨rfl, rfl⟩ | ⟨rfl, rfl⟩
    · go_wp2_with fail
      go_roundw
      case measure => simp [intOf]
      case rel => exact ⟨.inr (.inl ⟨rfl, rfl⟩), trivial⟩
    · go_wp2_with fail
      go_roundw
      case measure => simp [intOf]
      case rel => exact ⟨.inr (.inr ⟨rfl, by rw [← HMZ.out]⟩), trivial⟩
    · have HG := hid (grow170 w m (by omega))
      go_wp2_with fail
      refine HG.out.mono ?_
      rintro e w1 ⟨v, rfl, hv, hb1⟩
      have HV := hid hv
      have HB1 := hid hb1
      clear hv hb1
      go_wp2_with fail
      go_loopw [6, 27] (fun va vi wr => Hid (CatRow w cs cs' vi va wr)) (fun _ vi _ => 2 - (intOf vi).toNat)
      case atStart => exact ⟨HB1.out, .inl ⟨rfl, HV.out⟩⟩
      case round =>
        obtain ⟨BW, CR⟩ := hrel
        have hbk := HBK.out.below BW HBK.out.lt
        have d0 : wr.cell? ⟨b, 0, none⟩ = some (.slice A n c) := (Blk.cell hbk 0).trans rfl
        have d1 : wr.cell? ⟨b, 1, none⟩ = some (.slice A' n' c') := (Blk.cell hbk 1).trans rfl
        have R0 := hid ((H.out.below BW).reads)
        have R1 := hid ((H'.out.below BW).reads)
        have BWH := hid BW
        have SZ := BW.size
        clear hbk BW
        rcases CR with ⟨rfl, hv⟩ | ⟨rfl, hv⟩ | ⟨rfl, hv⟩
        · have HV2 := hid hv
          clear hv
          go_wp2_with (at_builtin; refine wpList_append_any _ rfl (.tmp 31) (.tmp 32) _ rfl w.heap.size 32 i0 _ 2 16 Try.underlying23 hi0 hz0 hz1 hz2 rfl (by omega) _ _ _ rfl HV2.out w.heap.size A n c (flat cs) rfl R0.out (flat_one cs) (by simp only [maxLen]; omega) (by omega) SZ ?_; intro v1 w1' hown1 hg1 hat1; have hb2 := BWH.out.grown hg1 SZ (fun g hg => (World.ownsRow.lt HV2.out g hg).1); have HO1 := hid hown1; have HB2 := hid hb2; clear hown1 hg1 hat1 hb2)
          go_roundw
          case measure => simp [intOf]
          case rel => exact ⟨HB2.out, .inr (.inl ⟨rfl, by rw [hl.out]; have := HO1.out; simpa using this⟩)⟩
        · have HV2 := hid hv
          clear hv
          go_wp2_with (at_builtin; refine wpList_append_any _ rfl (.tmp 31) (.tmp 32) _ rfl w.heap.size 32 i0 _ 2 16 Try.underlying23 hi0 hz0 hz1 hz2 rfl (by omega) _ _ _ rfl HV2.out w.heap.size A' n' c' (flat cs') rfl R1.out (flat_one cs') (by simp only [maxLen]; have := hl.out; omega) (by have := hl.out; omega) SZ ?_; intro v1 w1' hown1 hg1 hat1; have hb2 := BWH.out.grown hg1 SZ (fun g hg => (World.ownsRow.lt HV2.out g hg).1); have HO1 := hid hown1; have HB2 := hid hb2; clear hown1 hg1 hat1 hb2)
          go_roundw
          case measure => simp [intOf]
          case rel => exact ⟨HB2.out, .inr (.inr ⟨rfl, by rw [hl'.out]; exact HO1.out⟩)⟩
        · have HV2 := hid hv
          clear hv
          go_wp2_with fail
          go_ret
          exact ⟨_, rfl, OwnCats.of_own (by rw [List.length_append, flat_append]; exact HV2.out), BWH.out⟩
end Go.Proofs.Ytndohmimcbmhdaa
