/- Slices of links, bytes, numbers and slots: copies, comparisons, searches. -/
import Derived.Test.YtndohmimcbmhdaaMz18
import Derived.Great.Walk
import Derived.Great.BuildSlice
import Derived.Deep.WholeRow
import Derived.Laws.CopyRow
import Derived.Laws.StructEq
set_option linter.unusedVariables false
set_option linter.unusedSimpArgs false
namespace Go.Proofs.Ytndohmimcbmhdaa
open Go.RowKit Go.Sort

/-- No old block. -/
def FreshA (B : Nat) (A : Option Addr) : Prop := ∀ a, A = some a → B ≤ a.block
def RetCats (cs : List (Int × Int)) (w : World) (e : Ending) (w' : World) : Prop := ∃ A n c, e = .returned (.slice A n c) ∧ CatsAt w' w'.heap.size A n c cs ∧ FreshA w.heap.size A ∧ Below w.heap.size w w'
def RetBytes (bs : List Int) (w : World) (e : Ending) (w' : World) : Prop := ∃ A n c, e = .returned (.slice A n c) ∧ BytesAt w' w'.heap.size A n c bs ∧ FreshA w.heap.size A ∧ Below w.heap.size w w'
theorem FreshA.none_ (B : Nat) : FreshA B none := fun _ h => by cases h
theorem FreshA.some_ {B g o : Nat} (h : B ≤ g) : FreshA B (some ⟨g, o, none⟩) := fun _ e => by cases e; exact h

theorem clone92_r (w : World) (A : Option Addr) (n c : Nat) (cs : List (Int × Int)) (h : CatsAt w w.heap.size A n c cs) (hn : n ≤ 8796093022208) :
    Calls Try.prog 92 #[.slice A n c] w fun e w' => RetCats cs w e w' :=
  (clone92 w A n c cs h hn).mono fun e w' ⟨v, he, ho, hb⟩ => by
    rcases ho with ⟨rfl, rfl⟩ | ⟨g, cap, tl, rfl, hg, hc, hm, hr, _⟩
    · exact ⟨none, 0, 0, he, CatsAt.nil_, FreshA.none_ _, hb⟩
    · exact ⟨_, _, _, he, CatsAt.of_row hr hc hm, FreshA.some_ hg, hb⟩

theorem cats_of_own {w : World} {base e : Nat} {v : Value} {cs : List (Int × Int)} (h : w.ownsRow base e 2 v cs.length (flat cs)) : ∃ A n c, v = .slice A n c ∧ CatsAt w w.heap.size A n c cs ∧ FreshA base A := by
  obtain ⟨h1, h2⟩ := h
  rcases h2 with ⟨rfl, hn⟩ | ⟨g, cap, cur, rfl, hb, hh, hnc, hcm, hsz, htk⟩
  · exact ⟨none, 0, 0, rfl, by rw [List.eq_nil_of_length_eq_zero hn]; exact CatsAt.nil_, FreshA.none_ _⟩
  · have hk : Blk w g e (flat cs ++ cur.toList.drop (cs.length * 2)).toArray := by
      unfold Blk
      rw [← htk, List.take_append_drop, Array.toArray_toList]
      exact hh
    have hcell : ∀ j u, (flat cs)[j]? = some u → w.cell? ⟨g, j, none⟩ = some u := fun j u hu => by
      rw [Blk.cell hk]
      have hl : j < (flat cs).length := (List.getElem?_eq_some_iff.1 hu).1
      simp only [List.getElem?_toArray]
      rw [List.getElem?_append_left hl, hu]
    refine ⟨_, _, _, rfl, ⟨rfl, hnc, hcm, fun _ => ⟨g, 0, rfl, hk.lt, fun i x hx => ?_⟩⟩, FreshA.some_ hb⟩
    rw [Nat.zero_add]
    exact ⟨hcell _ _ (flat_get0 cs i x hx), hcell _ _ (flat_get1 cs i x hx)⟩
theorem bytes_of_own {w : World} {base e : Nat} {v : Value} {bs : List Int} (hf : ∀ x ∈ bs, 0 ≤ x ∧ x ≤ 255) (h : w.ownsRow base e 1 v bs.length (byteCells bs)) : ∃ A n c, v = .slice A n c ∧ BytesAt w w.heap.size A n c bs ∧ FreshA base A := by
  obtain ⟨h1, h2⟩ := h
  rcases h2 with ⟨rfl, hn⟩ | ⟨g, cap, cur, rfl, hb, hh, hnc, hcm, hsz, htk⟩
  · exact ⟨none, 0, 0, rfl, by rw [List.eq_nil_of_length_eq_zero hn]; exact BytesAt.nil_, FreshA.none_ _⟩
  · have hk : Blk w g e (byteCells bs ++ cur.toList.drop (bs.length * 1)).toArray := by
      unfold Blk
      rw [← htk, List.take_append_drop, Array.toArray_toList]
      exact hh
    refine ⟨_, _, _, rfl, ⟨rfl, hnc, hcm, hf, fun _ => ⟨g, 0, rfl, hk.lt, fun i x hx => ?_⟩⟩, FreshA.some_ hb⟩
    rw [Nat.zero_add, Blk.cell hk]
    have hi : i < bs.length := (List.getElem?_eq_some_iff.1 hx).1
    simp only [List.getElem?_toArray]
    rw [List.getElem?_append_left (by unfold byteCells; rw [List.length_map]; exact hi)]
    unfold byteCells
    rw [List.getElem?_map, hx]
    rfl
theorem link_info : (Try.prog.info? 101).map (fun i => (i.zero, i.size, i.bytes)) = some (some (.agg #[.int .u64 0, .int .i64 0]), 2, 16) := by kernel_rfl
theorem byte_info : (Try.prog.info? 5).map (fun i => (i.zero, i.size, i.bytes)) = some (some (.int .u8 0), 1, 1) := by kernel_rfl


set_option maxHeartbeats 1000000 in
theorem clone146 (w : World) (A : Option Addr) (n c : Nat) (xs : List (Int × Int)) (h : CatsAt w w.heap.size A n c xs) (hn : n ≤ 8796093022208) :
    Calls Try.prog 146 #[.slice A n c] w fun e w' => RetCats xs w e w' := by
  obtain ⟨i0, hi0, hz0, hz1, hz2⟩ := info_parts link_info
  have hnil := fun W : World => Lib.run_eql_slice_nil (P := Try.prog) W 56 101 A n c 0 0 Try.underlying56
  cases A with
  | none =>
    have hn0 : n = 0 := by
      rcases Nat.eq_zero_or_pos n with h0 | h0
      · exact h0
      · obtain ⟨b, off, e, _⟩ := h.cells h0; cases e
    have hcs : xs = [] := List.eq_nil_of_length_eq_zero (by have := h.len; omega)
    have HC := hid hcs
    clear hcs h hn0
    go_enter Try.func146, Try.ntmps146
    go_wp2_with fail
    go_ret
    exact ⟨none, 0, 0, rfl, by rw [HC.out]; exact CatsAt.nil_, FreshA.none_ _, Below.refl _ _⟩
  | some ad =>
    have hr := h.reads
    have hone := flat_one xs
    have hlen := hid h.len
    skip
    clear h
    go_enter Try.func146, Try.ntmps146
    go_wp2_with (at_builtin
                 refine wpList_append_any _ rfl (.tmp 5) (.tmp 6) _ rfl w.heap.size 101 i0 _ 2 16 Try.underlying56 hi0 hz0 hz1 hz2 rfl (by omega) (.slice (some ⟨w.heap.size, 0, none⟩) 0 0) 0 [] rfl
                   (World.ownsRow_made w #[] 0 (Nat.le_refl _) (by simp [maxLen]) rfl) w.heap.size (some ad) n c (flat xs) rfl (hr.alloc (Nat.le_refl _) _) hone (by simp only [maxLen]; omega) (by omega) (by simp) ?_
                 intro v1 w1 hown1 hg1 hat1
                 have hb1 : Below w.heap.size w w1 := ((Below.refl _ _).alloc (Nat.le_refl _) _).grown hg1 (by simp) (by simp [Value.ownBlock]))
    go_ret
    obtain ⟨A1, n1, c1, rfl, hT, hF⟩ := cats_of_own (w := w1) (base := w.heap.size) (e := 101) (v := v1) (by rw [hlen.out]; simpa using hown1)
    exact ⟨A1, n1, c1, rfl, hT, hF, hb1⟩


set_option maxHeartbeats 1000000 in
theorem clone147 (w : World) (A : Option Addr) (n c : Nat) (xs : List Int) (h : BytesAt w w.heap.size A n c xs) (hn : n ≤ 140737488355328) :
    Calls Try.prog 147 #[.slice A n c] w fun e w' => RetBytes xs w e w' := by
  obtain ⟨i0, hi0, hz0, hz1, hz2⟩ := info_parts byte_info
  have hnil := fun W : World => Lib.run_eql_slice_nil (P := Try.prog) W 57 5 A n c 0 0 Try.underlying57
  cases A with
  | none =>
    have hn0 : n = 0 := by
      rcases Nat.eq_zero_or_pos n with h0 | h0
      · exact h0
      · obtain ⟨b, off, e, _⟩ := h.cells h0; cases e
    have hcs : xs = [] := List.eq_nil_of_length_eq_zero (by have := h.len; omega)
    have HC := hid hcs
    clear hcs h hn0
    go_enter Try.func147, Try.ntmps147
    go_wp2_with fail
    go_ret
    exact ⟨none, 0, 0, rfl, by rw [HC.out]; exact BytesAt.nil_, FreshA.none_ _, Below.refl _ _⟩
  | some ad =>
    have hr := h.reads
    have hone := byteCells_one xs
    have hlen := hid h.len
    have HFit := hid h.fit
    clear h
    go_enter Try.func147, Try.ntmps147
    go_wp2_with (at_builtin
                 refine wpList_append_any _ rfl (.tmp 5) (.tmp 6) _ rfl w.heap.size 5 i0 _ 1 1 Try.underlying57 hi0 hz0 hz1 hz2 rfl (by omega) (.slice (some ⟨w.heap.size, 0, none⟩) 0 0) 0 [] rfl
                   (World.ownsRow_made w #[] 0 (Nat.le_refl _) (by simp [maxLen]) rfl) w.heap.size (some ad) n c (byteCells xs) rfl (hr.alloc (Nat.le_refl _) _) hone (by simp only [maxLen]; omega) (by omega) (by simp) ?_
                 intro v1 w1 hown1 hg1 hat1
                 have hb1 : Below w.heap.size w w1 := ((Below.refl _ _).alloc (Nat.le_refl _) _).grown hg1 (by simp) (by simp [Value.ownBlock]))
    go_ret
    obtain ⟨A1, n1, c1, rfl, hT, hF⟩ := bytes_of_own HFit.out (w := w1) (base := w.heap.size) (e := 5) (v := v1) (by rw [hlen.out]; simpa using hown1)
    exact ⟨A1, n1, c1, rfl, hT, hF, hb1⟩

set_option maxHeartbeats 2000000 in
set_option maxRecDepth 100000 in
theorem equal144 (w : World) (A A' : Option Addr) (n c n' c' : Nat) (cs cs' : List (Int × Int)) (h : CatsAt w w.heap.size A n c cs) (h' : CatsAt w w.heap.size A' n' c' cs') :
    Calls Try.prog 144 #[.slice A n c, .slice A' n' c'] w fun e w' => e = .returned (.bool (eqB cs cs')) ∧ Below w.heap.size w w' := by
  have mixed : Try.prog.follows .mixedOrders = true := by kernel_rfl
  have hm : n ≤ 9223372036854775807 := by have := h.cap; have := h.max; unfold maxLen at this; omega
  have H := hid h
  have H' := hid h'
  have HL := hid h.len
  have HL' := hid h'.len
  clear h h'
  by_cases hnn : n = n'
  · subst hnn
    have hnn2 : ((n : Int) != (n : Int)) = false := by simp
    have hnn3 : (n != n) = false := by simp
    go_enter Try.func144, Try.ntmps144
    go_wp2_with fail
    go_loopw [13] (fun vi wr => ∃ k : Nat, k ≤ n ∧ vi = .int .i64 k ∧ Hid (Below w.heap.size w wr) ∧ Hid (∀ j, j < k → cs[j]? = cs'[j]?)) (fun vi _ => n - (intOf vi).toNat)
    case atStart => exact ⟨0, Nat.zero_le _, rfl, Below.refl _ _, fun j hj => absurd hj (by omega)⟩
    case round =>
      obtain ⟨k, hk, rfl, BW, EQ⟩ := hrel
      by_cases hlt : k < n
      · have hltz : (k : Int) < (n : Int) := by omega
        obtain ⟨b, off, i, v, rfl, hbB, hx, c0, c1⟩ := (H.out.below BW.out).at2_ hlt
        obtain ⟨b', off', i', v', rfl, hbB', hx', c0', c1'⟩ := (H'.out.below BW.out).at2_ hlt
        have HX := hid hx
        have HX' := hid hx'
        clear hx hx'
        by_cases hi : i = i'
        · subst hi
          by_cases hv : v = v'
          · subst hv
            go_wp2_with fail
            go_quiet (fail)
            go_wp2_with fail
            go_roundw
            case measure => simp [intOf] <;> omega
            case rel =>
              refine ⟨k + 1, by omega, by go_num, below_drewN' BW.out _, (show Hid _ from fun j hj => ?_)⟩
              by_cases e : j = k
              · subst e; rw [HX.out, HX'.out]
              · exact EQ.out j (by omega)
          · have HE : Hid (eqB cs cs' = false) := decide_eq_false fun h => differ_at HX.out HX'.out (fun e => hv e.2) h
            have hb : (v == v') = false := by simpa using hv
            go_wp2_with fail
            go_quiet (fail)
            go_wp2_with fail
            go_ret
            exact ⟨by rw [HE.out]; rfl, below_drewN' BW.out _⟩
        · have HE : Hid (eqB cs cs' = false) := decide_eq_false fun h => differ_at HX.out HX'.out (fun e => hi e.1) h
          have hb : (i == i') = false := by simpa using hi
          go_wp2_with fail
          go_quiet (fail)
          go_wp2_with fail
          go_ret
          exact ⟨by rw [HE.out]; rfl, below_drewN' BW.out _⟩
      · have hltz : ¬ (k : Int) < (n : Int) := by omega
        have HE : Hid (eqB cs cs' = true) := decide_eq_true (same_to HL.out HL'.out fun j hj => EQ.out j (by omega))
        go_wp2_with fail
        go_ret
        exact ⟨by rw [HE.out]; rfl, BW.out⟩
  · have HE : Hid (eqB cs cs' = false) := decide_eq_false fun h => hnn (by rw [← HL.out, ← HL'.out, h])
    have hnz : ¬ (n : Int) = (n' : Int) := by omega
    go_enter Try.func144, Try.ntmps144
    go_wp2_with fail
    go_ret
    exact ⟨by rw [HE.out]; rfl, Below.refl _ _⟩


def bytesB (a b : List Int) : Bool := decide (a = b)
theorem same_toI {cs cs' : List Int} {n : Nat} (hl : cs.length = n) (hl' : cs'.length = n) (h : ∀ j, j < n → cs[j]? = cs'[j]?) : cs = cs' := by
  apply List.ext_getElem?
  intro j
  by_cases hj : j < n
  · exact h j hj
  · rw [List.getElem?_eq_none (by omega), List.getElem?_eq_none (by omega)]
theorem BytesAt.at_ {w : World} {B : Nat} {A : Option Addr} {n c : Nat} {bs : List Int} (h : BytesAt w B A n c bs) {k : Nat} (hk : k < n) : ∃ b off x, A = some ⟨b, off, none⟩ ∧ b < B ∧ bs[k]? = some x ∧ w.cell? ⟨b, off + k, none⟩ = some (.int .u8 x) := by
  obtain ⟨b, off, e, hb, hc⟩ := h.cells (by omega)
  have hx := List.getElem?_eq_getElem (l := bs) (i := k) (by have := h.len; omega)
  exact ⟨b, off, _, e, hb, hx, hc _ _ hx⟩

set_option maxHeartbeats 2000000 in
set_option maxRecDepth 100000 in
theorem equal145 (w : World) (A A' : Option Addr) (n c n' c' : Nat) (cs cs' : List Int) (h : BytesAt w w.heap.size A n c cs) (h' : BytesAt w w.heap.size A' n' c' cs') :
    Calls Try.prog 145 #[.slice A n c, .slice A' n' c'] w fun e w' => e = .returned (.bool (bytesB cs cs')) ∧ Below w.heap.size w w' := by
  have mixed : Try.prog.follows .mixedOrders = true := by kernel_rfl
  have hm : n ≤ 9223372036854775807 := by have := h.cap; have := h.max; unfold maxLen at this; omega
  have H := hid h
  have H' := hid h'
  have HL := hid h.len
  have HL' := hid h'.len
  clear h h'
  by_cases hnn : n = n'
  · subst hnn
    have hnn2 : ((n : Int) != (n : Int)) = false := by simp
    have hnn3 : (n != n) = false := by simp
    go_enter Try.func145, Try.ntmps145
    go_wp2_with fail
    go_loopw [13] (fun vi wr => ∃ k : Nat, k ≤ n ∧ vi = .int .i64 k ∧ Hid (Below w.heap.size w wr) ∧ Hid (∀ j, j < k → cs[j]? = cs'[j]?)) (fun vi _ => n - (intOf vi).toNat)
    case atStart => exact ⟨0, Nat.zero_le _, rfl, Below.refl _ _, fun j hj => absurd hj (by omega)⟩
    case round =>
      obtain ⟨k, hk, rfl, BW, EQ⟩ := hrel
      by_cases hlt : k < n
      · have hltz : (k : Int) < (n : Int) := by omega
        obtain ⟨b, off, i, rfl, hbB, hx, c0⟩ := (H.out.below BW.out).at_ hlt
        obtain ⟨b', off', i', rfl, hbB', hx', c0'⟩ := (H'.out.below BW.out).at_ hlt
        have HX := hid hx
        have HX' := hid hx'
        clear hx hx'
        by_cases hi : i = i'
        · subst hi
          go_wp2_with fail
          go_quiet (fail)
          go_wp2_with fail
          go_roundw
          case measure => simp [intOf] <;> omega
          case rel =>
            refine ⟨k + 1, by omega, by go_num, below_drewN' BW.out _, (show Hid _ from fun j hj => ?_)⟩
            by_cases e : j = k
            · subst e; rw [HX.out, HX'.out]
            · exact EQ.out j (by omega)
        · have HE : Hid (bytesB cs cs' = false) := decide_eq_false fun h => hi (by have := HX.out; rw [h, HX'.out] at this; exact (Option.some.inj this).symm)
          have hb : (i == i') = false := by simpa using hi
          go_wp2_with fail
          go_quiet (fail)
          go_wp2_with fail
          go_ret
          exact ⟨by rw [HE.out]; rfl, below_drewN' BW.out _⟩
      · have hltz : ¬ (k : Int) < (n : Int) := by omega
        have HE : Hid (bytesB cs cs' = true) := decide_eq_true (same_toI HL.out HL'.out fun j hj => EQ.out j (by omega))
        go_wp2_with fail
        go_ret
        exact ⟨by rw [HE.out]; rfl, BW.out⟩
  · have HE : Hid (bytesB cs cs' = false) := decide_eq_false fun h => hnn (by rw [← HL.out, ← HL'.out, h])
    have hnz : ¬ (n : Int) = (n' : Int) := by omega
    go_enter Try.func145, Try.ntmps145
    go_wp2_with fail
    go_ret
    exact ⟨by rw [HE.out]; rfl, Below.refl _ _⟩



structure UnsAt (w : World) (B : Nat) (A : Option Addr) (n c : Nat) (xs : List (Int)) : Prop where
  len : xs.length = n
  max : n ≤ maxLen
  cells : 0 < n → ∃ b off, A = some ⟨b, off, none⟩ ∧ b < B ∧ ∀ i x, xs[i]? = some x → w.cell? ⟨b, off + i, none⟩ = some (.int .u64 x)
theorem UnsAt.below {w w' : World} {B : Nat} {A : Option Addr} {n c : Nat} {xs : List (Int)} (h : UnsAt w B A n c xs) (hb : Below B w w') : UnsAt w' B A n c xs :=
  ⟨h.len, h.max, fun hn => by
    obtain ⟨b, off, e, hB, hc⟩ := h.cells hn
    exact ⟨b, off, e, hB, fun i x hx => (hb.cell (p := ⟨b, off + i, none⟩) hB).trans (hc i x hx)⟩⟩
theorem UnsAt.at_ {w : World} {B : Nat} {A : Option Addr} {n c : Nat} {xs : List (Int)} (h : UnsAt w B A n c xs) {k : Nat} (hk : k < n) : ∃ b off x, A = some ⟨b, off, none⟩ ∧ b < B ∧ xs[k]? = some x ∧ w.cell? ⟨b, off + k, none⟩ = some (.int .u64 x) := by
  obtain ⟨b, off, e, hb, hc⟩ := h.cells (by omega)
  have hx := List.getElem?_eq_getElem (l := xs) (i := k) (by have := h.len; omega)
  exact ⟨b, off, _, e, hb, hx, hc _ _ hx⟩
def UnsTest (fn : Nat) (cb : Array Value) (p : Int → Bool) (xs : List (Int)) (w : World) : Prop :=
  ∀ W, Below w.heap.size w W → ∀ x : Int, x ∈ xs → Calls Try.prog fn (#[.int .u64 x] ++ cb) W fun e w' => e = .returned (.bool (p x)) ∧ Below w.heap.size w w'
def UnsIdx (p : Int → Bool) (cs : List (Int)) : Int := match cs.findIdx? p with | some i => (i : Int) | none => -1
theorem UnsIdx_hit {p : Int → Bool} {cs : List (Int)} {k : Nat} {x : Int} (hx : cs[k]? = some x) (hp : p x = true) (hno : ∀ j y, j < k → cs[j]? = some y → p y = false) : UnsIdx p cs = (k : Int) := by
  unfold UnsIdx
  have : cs.findIdx? p = some k := by
    rw [List.findIdx?_eq_some_iff_getElem]
    obtain ⟨hk, rfl⟩ := List.getElem?_eq_some_iff.1 hx
    exact ⟨hk, hp, fun j hj => by rw [hno j _ hj (List.getElem?_eq_getElem (by omega))]; exact Bool.false_ne_true⟩
  rw [this]
theorem UnsIdx_miss {p : Int → Bool} {cs : List (Int)} (hno : ∀ (j : Nat) (y : Int), cs[j]? = some y → p y = false) : UnsIdx p cs = -1 := by
  unfold UnsIdx
  have : cs.findIdx? p = none := by
    rw [List.findIdx?_eq_none_iff]
    intro x hx
    obtain ⟨k, hk, rfl⟩ := List.getElem_of_mem hx
    exact hno k _ (List.getElem?_eq_getElem hk)
  rw [this]
theorem UnsIdx_nonneg (p : Int → Bool) (cs : List (Int)) : decide (0 ≤ UnsIdx p cs) = cs.any p := by
  unfold UnsIdx
  cases h : cs.findIdx? p with
  | none =>
    rw [List.findIdx?_eq_none_iff] at h
    have : cs.any p = false := by rw [List.any_eq_false]; intro x hx; rw [h x hx]; exact Bool.false_ne_true
    rw [this]; rfl
  | some k =>
    obtain ⟨hk, hp, _⟩ := List.findIdx?_eq_some_iff_getElem.1 h
    have : cs.any p = true := List.any_eq_true.2 ⟨_, List.getElem_mem hk, hp⟩
    rw [this]; simp
set_option maxHeartbeats 1000000 in
theorem indexFunc178 (w : World) (A : Option Addr) (n c : Nat) (cs : List (Int)) (fn : Nat) (cb : Array Value) (p : Int → Bool) (h : UnsAt w w.heap.size A n c cs) (ht : UnsTest fn cb p cs w) (eg : ∀ args w, (callFunc fn args).run Try.prog w = .ok (.enter fn args) w) :
    Calls Try.prog 178 #[.slice A n c, .func (.func fn) #[] cb] w fun e w' => e = .returned (.int .i64 (UnsIdx p cs)) ∧ Below w.heap.size w w' := by
  have hm : n ≤ 9223372036854775807 := by have := h.max; unfold maxLen at this; omega
  have HT : Hid (UnsTest fn cb p cs w) := ht
  have H := hid h
  clear h ht
  go_enter Try.func178, Try.ntmps178
  go_wp2_with fail
  go_loopw [8] (fun vi wr => ∃ k : Nat, k ≤ n ∧ vi = .int .i64 k ∧ Hid (Below w.heap.size w wr) ∧ Hid (∀ j y, j < k → cs[j]? = some y → p y = false)) (fun vi _ => n - (intOf vi).toNat)
  case atStart => exact ⟨0, Nat.zero_le _, rfl, Below.refl _ w, fun j y hj => absurd hj (Nat.not_lt_zero _)⟩
  case round =>
    obtain ⟨k, hk, rfl, BW, AL⟩ := hrel
    by_cases hlt : k < n
    · have hltz : (k : Int) < (n : Int) := by omega
      obtain ⟨b, off, x, rfl, hbB, hx, c0⟩ := (H.out.below BW.out).at_ hlt
      have hcall := HT.out wr BW.out x (List.mem_of_getElem? hx)
      have HX := hid hx
      clear hx
      cases hq : p x with
      | true =>
        rw [hq] at hcall
        have HQ := hid hq
        clear hq
        go_wp2_with (go_at_fn fn; refine hcall.mono ?_; rintro e w' ⟨rfl, hb'⟩)
        go_ret
        exact ⟨ret_i64 (UnsIdx_hit HX.out HQ.out AL.out).symm, hb'⟩
      | false =>
        rw [hq] at hcall
        have HQ := hid hq
        clear hq
        go_wp2_with (go_at_fn fn; refine hcall.mono ?_; rintro e w' ⟨rfl, hb'⟩)
        go_roundw
        case measure => simp [intOf] <;> omega
        case rel =>
          refine ⟨k + 1, by omega, by go_num, hb', (show Hid _ from fun j y hj hy => ?_)⟩
          by_cases e : j = k
          · subst e
            have := HX.out
            rw [hy] at this; cases this
            exact HQ.out
          · exact AL.out j y (by omega) hy
    · have hltz : ¬ (k : Int) < (n : Int) := by omega
      go_wp2_with fail
      go_ret
      refine ⟨ret_i64 (UnsIdx_miss fun j y hy => AL.out j y ?_ hy).symm, BW.out⟩
      have := (List.getElem?_eq_some_iff.1 hy).1
      have := H.out.len
      omega
set_option maxHeartbeats 400000 in
theorem containsFunc165 (w : World) (A : Option Addr) (n c : Nat) (cs : List (Int)) (fn : Nat) (cb : Array Value) (p : Int → Bool) (h : UnsAt w w.heap.size A n c cs) (ht : UnsTest fn cb p cs w) (eg : ∀ args w, (callFunc fn args).run Try.prog w = .ok (.enter fn args) w) :
    Calls Try.prog 165 #[.slice A n c, .func (.func fn) #[] cb] w fun e w' => e = .returned (.bool (cs.any p)) ∧ Below w.heap.size w w' := by
  have HC := hid (indexFunc178 w A n c cs fn cb p h ht eg)
  have HE := hid (UnsIdx_nonneg p cs)
  clear h ht eg
  generalize UnsIdx p cs = r at *
  go_enter Try.func165, Try.ntmps165
  go_wp2_with fail
  refine HC.out.mono ?_
  rintro e w1 ⟨rfl, hb⟩
  have HB := hid hb
  clear hb HC
  go_wp2_with fail
  go_ret
  exact ⟨ret_bool HE.out, HB.out⟩


structure SlotsAt (w : World) (B : Nat) (A : Option Addr) (n c : Nat) (xs : List (Int × Int)) : Prop where
  len : xs.length = n
  max : n ≤ maxLen
  cells : 0 < n → ∃ b off, A = some ⟨b, off, none⟩ ∧ b < B ∧ ∀ i x, xs[i]? = some x → w.cell? ⟨b, off + i * 2, none⟩ = some (.int .u64 x.1) ∧ w.cell? ⟨b, off + i * 2 + 1, none⟩ = some (.int .u64 x.2)
theorem SlotsAt.below {w w' : World} {B : Nat} {A : Option Addr} {n c : Nat} {xs : List (Int × Int)} (h : SlotsAt w B A n c xs) (hb : Below B w w') : SlotsAt w' B A n c xs :=
  ⟨h.len, h.max, fun hn => by
    obtain ⟨b, off, e, hB, hc⟩ := h.cells hn
    exact ⟨b, off, e, hB, fun i x hx => ⟨(hb.cell (p := ⟨b, off + i * 2, none⟩) hB).trans (hc i x hx).1, (hb.cell (p := ⟨b, off + i * 2 + 1, none⟩) hB).trans (hc i x hx).2⟩⟩⟩
theorem SlotsAt.at_ {w : World} {B : Nat} {A : Option Addr} {n c : Nat} {xs : List (Int × Int)} (h : SlotsAt w B A n c xs) {k : Nat} (hk : k < n) : ∃ b off x, A = some ⟨b, off, none⟩ ∧ b < B ∧ xs[k]? = some x ∧ w.cell? ⟨b, off + k * 2, none⟩ = some (.int .u64 x.1) ∧ w.cell? ⟨b, off + k * 2 + 1, none⟩ = some (.int .u64 x.2) := by
  obtain ⟨b, off, e, hb, hc⟩ := h.cells (by omega)
  have hx := List.getElem?_eq_getElem (l := xs) (i := k) (by have := h.len; omega)
  exact ⟨b, off, _, e, hb, hx, hc _ _ hx⟩
def SlotsTest (fn : Nat) (cb : Array Value) (p : Int × Int → Bool) (xs : List (Int × Int)) (w : World) : Prop :=
  ∀ W, Below w.heap.size w W → ∀ x : Int × Int, x ∈ xs → Calls Try.prog fn (#[.agg #[.int .u64 x.1, .int .u64 x.2]] ++ cb) W fun e w' => e = .returned (.bool (p x)) ∧ Below w.heap.size w w'
def SlotsIdx (p : Int × Int → Bool) (cs : List (Int × Int)) : Int := match cs.findIdx? p with | some i => (i : Int) | none => -1
theorem SlotsIdx_hit {p : Int × Int → Bool} {cs : List (Int × Int)} {k : Nat} {x : Int × Int} (hx : cs[k]? = some x) (hp : p x = true) (hno : ∀ j y, j < k → cs[j]? = some y → p y = false) : SlotsIdx p cs = (k : Int) := by
  unfold SlotsIdx
  have : cs.findIdx? p = some k := by
    rw [List.findIdx?_eq_some_iff_getElem]
    obtain ⟨hk, rfl⟩ := List.getElem?_eq_some_iff.1 hx
    exact ⟨hk, hp, fun j hj => by rw [hno j _ hj (List.getElem?_eq_getElem (by omega))]; exact Bool.false_ne_true⟩
  rw [this]
theorem SlotsIdx_miss {p : Int × Int → Bool} {cs : List (Int × Int)} (hno : ∀ (j : Nat) (y : Int × Int), cs[j]? = some y → p y = false) : SlotsIdx p cs = -1 := by
  unfold SlotsIdx
  have : cs.findIdx? p = none := by
    rw [List.findIdx?_eq_none_iff]
    intro x hx
    obtain ⟨k, hk, rfl⟩ := List.getElem_of_mem hx
    exact hno k _ (List.getElem?_eq_getElem hk)
  rw [this]
theorem SlotsIdx_nonneg (p : Int × Int → Bool) (cs : List (Int × Int)) : decide (0 ≤ SlotsIdx p cs) = cs.any p := by
  unfold SlotsIdx
  cases h : cs.findIdx? p with
  | none =>
    rw [List.findIdx?_eq_none_iff] at h
    have : cs.any p = false := by rw [List.any_eq_false]; intro x hx; rw [h x hx]; exact Bool.false_ne_true
    rw [this]; rfl
  | some k =>
    obtain ⟨hk, hp, _⟩ := List.findIdx?_eq_some_iff_getElem.1 h
    have : cs.any p = true := List.any_eq_true.2 ⟨_, List.getElem_mem hk, hp⟩
    rw [this]; simp
set_option maxHeartbeats 1000000 in
theorem indexFunc179 (w : World) (A : Option Addr) (n c : Nat) (cs : List (Int × Int)) (fn : Nat) (cb : Array Value) (p : Int × Int → Bool) (h : SlotsAt w w.heap.size A n c cs) (ht : SlotsTest fn cb p cs w) (eg : ∀ args w, (callFunc fn args).run Try.prog w = .ok (.enter fn args) w) :
    Calls Try.prog 179 #[.slice A n c, .func (.func fn) #[] cb] w fun e w' => e = .returned (.int .i64 (SlotsIdx p cs)) ∧ Below w.heap.size w w' := by
  have hm : n ≤ 9223372036854775807 := by have := h.max; unfold maxLen at this; omega
  have HT : Hid (SlotsTest fn cb p cs w) := ht
  have H := hid h
  clear h ht
  go_enter Try.func179, Try.ntmps179
  go_wp2_with fail
  go_loopw [8] (fun vi wr => ∃ k : Nat, k ≤ n ∧ vi = .int .i64 k ∧ Hid (Below w.heap.size w wr) ∧ Hid (∀ j y, j < k → cs[j]? = some y → p y = false)) (fun vi _ => n - (intOf vi).toNat)
  case atStart => exact ⟨0, Nat.zero_le _, rfl, Below.refl _ w, fun j y hj => absurd hj (Nat.not_lt_zero _)⟩
  case round =>
    obtain ⟨k, hk, rfl, BW, AL⟩ := hrel
    by_cases hlt : k < n
    · have hltz : (k : Int) < (n : Int) := by omega
      obtain ⟨b, off, x, rfl, hbB, hx, c0, c1⟩ := (H.out.below BW.out).at_ hlt
      have hcall := HT.out wr BW.out x (List.mem_of_getElem? hx)
      have HX := hid hx
      clear hx
      cases hq : p x with
      | true =>
        rw [hq] at hcall
        have HQ := hid hq
        clear hq
        go_wp2_with (go_at_fn fn; refine hcall.mono ?_; rintro e w' ⟨rfl, hb'⟩)
        go_ret
        exact ⟨ret_i64 (SlotsIdx_hit HX.out HQ.out AL.out).symm, hb'⟩
      | false =>
        rw [hq] at hcall
        have HQ := hid hq
        clear hq
        go_wp2_with (go_at_fn fn; refine hcall.mono ?_; rintro e w' ⟨rfl, hb'⟩)
        go_roundw
        case measure => simp [intOf] <;> omega
        case rel =>
          refine ⟨k + 1, by omega, by go_num, hb', (show Hid _ from fun j y hj hy => ?_)⟩
          by_cases e : j = k
          · subst e
            have := HX.out
            rw [hy] at this; cases this
            exact HQ.out
          · exact AL.out j y (by omega) hy
    · have hltz : ¬ (k : Int) < (n : Int) := by omega
      go_wp2_with fail
      go_ret
      refine ⟨ret_i64 (SlotsIdx_miss fun j y hy => AL.out j y ?_ hy).symm, BW.out⟩
      have := (List.getElem?_eq_some_iff.1 hy).1
      have := H.out.len
      omega
set_option maxHeartbeats 400000 in
theorem containsFunc166 (w : World) (A : Option Addr) (n c : Nat) (cs : List (Int × Int)) (fn : Nat) (cb : Array Value) (p : Int × Int → Bool) (h : SlotsAt w w.heap.size A n c cs) (ht : SlotsTest fn cb p cs w) (eg : ∀ args w, (callFunc fn args).run Try.prog w = .ok (.enter fn args) w) :
    Calls Try.prog 166 #[.slice A n c, .func (.func fn) #[] cb] w fun e w' => e = .returned (.bool (cs.any p)) ∧ Below w.heap.size w w' := by
  have HC := hid (indexFunc179 w A n c cs fn cb p h ht eg)
  have HE := hid (SlotsIdx_nonneg p cs)
  clear h ht eg
  generalize SlotsIdx p cs = r at *
  go_enter Try.func166, Try.ntmps166
  go_wp2_with fail
  refine HC.out.mono ?_
  rintro e w1 ⟨rfl, hb⟩
  have HB := hid hb
  clear hb HC
  go_wp2_with fail
  go_ret
  exact ⟨ret_bool HE.out, HB.out⟩

end Go.Proofs.Ytndohmimcbmhdaa

/- Things in memory: a load and a store of a whole one; a store of a part of a block. -/
set_option linter.unusedVariables false
set_option linter.unusedSimpArgs false
namespace Go.Proofs.Ytndohmimcbmhdaa
open Go.RowKit Go.Sort

theorem th_info : (Try.prog.info? 61).map (·.size) = some 26 := by kernel_rfl
theorem thC_size (t : Th) : (thC t).size = 26 := rfl
theorem thC_one (t : Th) : ∀ v ∈ t.cells, v.oneCell' = true := by
  intro v hv
  simp only [Th.cells, List.mem_cons, List.not_mem_nil, or_false] at hv
  rcases hv with rfl | rfl | rfl | rfl | rfl | rfl | rfl | rfl | rfl | rfl | rfl | rfl | rfl | rfl | rfl | rfl | rfl | rfl | rfl | rfl | rfl | rfl | rfl | rfl | rfl | rfl <;> rfl

/-! ### Loads and stores of what has several cells, by the block -/
def splice (cur : List Value) (o : Nat) (vs : List Value) : List Value := cur.take o ++ vs ++ cur.drop (o + vs.length)

theorem run_store_blk {w : World} {g : Nat} {t ty : TypeId} {cur : List Value} {o : Nat} {v : Value} {vs : List Value} (hk : Blk w g t cur.toArray) (hv : v.cells = vs.toArray) (hs : (Try.prog.info? ty).map (·.size) = some vs.length) (hfit : o + vs.length ≤ cur.length) (h1 : ∀ u ∈ vs, u.oneCell' = true) :
    (storeVar ty ⟨g, o, none⟩ v).run Try.prog w = .ok () (w.setRow g (splice cur o vs).toArray) := by
  have hst := run_storeCells_at Try.prog g o t vs 0 cur.toArray w hk (by simpa using hfit) h1
  cases hq : Try.prog.info? ty with
  | none => rw [hq] at hs; cases hs
  | some i =>
    rw [hq] at hs
    have hi : vs.length = i.size := by simpa using hs.symm
    simp only [Nat.add_zero] at hst
    simp [storeVar, sizeOf, typeInfo, hq, hv, hi, hst, splice]

theorem blk_setRow {w : World} {g : Nat} {t : TypeId} {cur cs : Array Value} (hk : Blk w g t cur) : Blk (w.setRow g cs) g t cs := setRow_heap w g cur cs t (0, 0) hk
theorem but_setRow (w : World) (g : Nat) (cs : Array Value) : But (fun k => k = g) w (w.setRow g cs) := ⟨rfl, rfl, rfl, by simp, fun k _ hn => setRow_other w g k cs hn⟩
theorem But.into {D D' : Nat → Prop} {a b : World} (h : But D a b) (hD : ∀ k, D k → D' k) : But D' a b := ⟨h.os, h.tape, h.output, h.size, fun k hk hn => h.block k hk fun hd => hn (hD k hd)⟩

theorem loose_store {D : Nat → Prop} {C : World → Prop} {o : Oper} {a : Act} {W : World} {x y : Operand} {g off : Nat} {t ty : TypeId} {cur : List Value} {v : Value} {vs : List Value} (ho : o.op = .store ty x y)
    (hx : a.eval x = .pointer (some ⟨g, off, none⟩)) (hy : a.eval y = v) (hk : Blk W g t cur.toArray) (hv : v.cells = vs.toArray) (hs : (Try.prog.info? ty).map (·.size) = some vs.length) (hfit : off + vs.length ≤ cur.length) (h1 : ∀ u ∈ vs, u.oneCell' = true)
    (hD : D g) (hC : ∀ W', But (fun k => k = g) W W' → Blk W' g t (splice cur off vs).toArray → C W') : looseUpon Try.prog D (.write C) W ((execOp a.eval o).run Try.prog W) := by
  unfold execOp
  simp only [ho, hx, hy, Instr.storeAt, Instr.sureAddr, Sem.run_bind, Sem.run_pure, Result.andThen_ok, run_store_blk hk hv hs hfit h1]
  exact loose_write ((but_setRow W g _).into fun k e => by rw [e]; exact hD) (hC _ (but_setRow W g _) (blk_setRow hk))

/-- The cells of a part. -/
theorem run_load_blk {w : World} {g : Nat} {t ty : TypeId} {cur : List Value} {o : Nat} {vs : List Value} (hk : Blk w g t cur.toArray) (ha : ∀ u : World, (isAgg ty).run Try.prog u = .ok true u) (hs : (Try.prog.info? ty).map (·.size) = some vs.length) (hin : (cur.drop o).take vs.length = vs) :
    (loadVar ty ⟨g, o, none⟩).run Try.prog w = .ok (.agg vs.toArray) w := by
  have hl : (loadCells ⟨g, o, none⟩ vs.length).run Try.prog w = .ok vs.toArray w :=
    run_loadCells_list (P := Try.prog) w ⟨g, o, none⟩ vs (fun j v hv => by
      have hadd : (⟨g, o, none⟩ : Addr).add j = ⟨g, o + j, none⟩ := by unfold Addr.add; split <;> simp_all
      rw [hadd, Blk.cell hk]
      have hj : j < vs.length := (List.getElem?_eq_some_iff.1 hv).1
      rw [← hin, List.getElem?_take_of_lt hj, List.getElem?_drop] at hv
      simpa using hv)
  cases hq : Try.prog.info? ty with
  | none => rw [hq] at hs; cases hs
  | some i =>
    rw [hq] at hs
    have hi : i.size = vs.length := by simpa using hs
    simp [loadVar, Sem.run_bind, ha, sizeOf, typeInfo, hq, hi, hl]
theorem agg_of_struct {ty : TypeId} {fs : Array Field} (h : Try.prog.underlying ty = some (.struct fs)) (u : World) : (isAgg ty).run Try.prog u = .ok true u := by
  unfold isAgg; rw [Sem.run_bind, run_underlying h u]; rfl
theorem agg_of_array {ty e : TypeId} {n : Nat} (h : Try.prog.underlying ty = some (.array n e)) (u : World) : (isAgg ty).run Try.prog u = .ok true u := by
  unfold isAgg; rw [Sem.run_bind, run_underlying h u]; rfl
theorem loose_load {o : Oper} {a : Act} {W : World} {x : Operand} {g off : Nat} {t ty : TypeId} {cur : List Value} {vs : List Value} (ho : o.op = .load ty x) (hx : a.eval x = .pointer (some ⟨g, off, none⟩)) (hk : Blk W g t cur.toArray)
    (ha : ∀ u : World, (isAgg ty).run Try.prog u = .ok true u) (hs : (Try.prog.info? ty).map (·.size) = some vs.length) (hin : (cur.drop off).take vs.length = vs) : looseUpon Try.prog nil_ (.val (.agg vs.toArray)) W ((execOp a.eval o).run Try.prog W) := by
  unfold execOp
  simp only [ho, hx, Instr.loadAt, Instr.sureAddr, Sem.run_bind, Sem.run_pure, Result.andThen_ok, run_load_blk hk ha hs hin]
  exact loose_val
theorem agg61 : ∀ u : World, (isAgg 61).run Try.prog u = .ok true u := agg_of_struct Try.underlying61
theorem loose_load61 {o : Oper} {a : Act} {W : World} {x : Operand} {g : Nat} {t : Th} (ho : o.op = .load 61 x) (hx : a.eval x = .pointer (some ⟨g, 0, none⟩)) (hk : Blk W g 61 (thC t)) : looseUpon Try.prog nil_ (.val (.agg (thC t))) W ((execOp a.eval o).run Try.prog W) :=
  loose_load (vs := t.cells) (cur := t.cells) ho hx hk agg61 th_info rfl

/-! ### The same where the text's order is kept -/
theorem wpList_load61 {ops : Array Oper} {rest : List Oper} {a : Act} {w : World} {Q : Exit → Act → World → Prop} {d : Tmp} {x : Operand} {ty : TypeId} {p : String} {f : Array Edge} (t : Th) (g : Nat) (hx : a.eval x = .pointer (some ⟨g, 0, none⟩)) (hk : Blk w g 61 (thC t))
    (h : wpList Try.prog ops Q rest (a.put (some d) (.agg (thC t))) w) : wpList Try.prog ops Q ({ dst := some d, op := .load 61 x, type := ty, pos := p, after := f, guard := none } :: rest) a w := by
  refine Great.wpList_runTo rfl _ rfl (.agg (thC t)) w ?_ h
  unfold execOp
  simp only [hx, Instr.loadAt, Instr.sureAddr, Sem.run_bind, Sem.run_pure, Result.andThen_ok, run_load_blk (o := 0) (vs := t.cells) (cur := t.cells) hk agg61 th_info (show (t.cells.drop 0).take t.cells.length = t.cells from rfl)]
  rfl
def thZ : Value := .agg #[.int .u64 0, .int .i64 0, .int .i64 0, .slice none 0 0, .int .i64 0, .slice none 0 0, .int .i64 0, .int .i64 0, .slice none 0 0, .slice none 0 0, .int .u64 0, .int .u64 0, .int .u64 0, .int .u64 0, .int .i64 0, .int .i64 0, .bool false, .int .u64 0, .int .u64 0, .int .u64 0, .int .u64 0, .int .u64 0, .int .u64 0, .int .u64 0, .int .u64 0, .int .u64 0]
theorem th_zero : (Try.prog.info? 61).bind (·.zero) = some thZ := by kernel_rfl
theorem thZ_size : thZ.cells.size = 26 := by kernel_rfl
def zeroTh : Th := ⟨0, 0, 0, ⟨none, 0, 0⟩, 0, ⟨none, 0, 0⟩, 0, 0, ⟨none, 0, 0⟩, ⟨none, 0, 0⟩, 0, 0, 0, 0, 0, 0, false, 0, 0, 0, 0, 0, 0, 0, 0, 0⟩
theorem zeroTh_cells : thZ.cells = thC zeroTh := rfl
theorem th_one_arr (t : Th) : (thC t).all (·.oneCell') = true := by
  rw [Array.all_eq_true_iff_forall_mem]
  intro v hv
  exact thC_one t v (by simpa [thC] using hv)
/-- A thing in a block of its own. -/
theorem wpList_new61 {ops : Array Oper} {rest : List Oper} {a : Act} {w : World} {Q : Exit → Act → World → Prop} {d : Tmp} {y : Operand} {ty1 ty2 : TypeId} {p1 p2 : String} {f1 f2 : Array Edge} (t : Th)
    (hd : (a.put (some d) (.pointer (some ⟨w.heap.size, 0, none⟩))).eval (.tmp d) = .pointer (some ⟨w.heap.size, 0, none⟩)) (hy : (a.put (some d) (.pointer (some ⟨w.heap.size, 0, none⟩))).eval y = .agg (thC t))
    (h : wpList Try.prog ops Q rest (a.put (some d) (.pointer (some ⟨w.heap.size, 0, none⟩))) (w.alloc (.cells (thC t) 61))) :
    wpList Try.prog ops Q ({ dst := some d, op := .alloc 61, type := ty1, pos := p1, after := f1, guard := none } :: { dst := none, op := .store 61 (.tmp d) y, type := ty2, pos := p2, after := f2, guard := none } :: rest) a w := by
  have hz := th_zero
  refine Great.wpList_runTo rfl _ rfl (.pointer (some ⟨w.heap.size, 0, none⟩)) (w.alloc (.cells thZ.cells 61)) ?_ ?_
  · cases hq : Try.prog.info? 61 with
    | none => rw [hq] at hz; cases hz
    | some i =>
      rw [hq] at hz
      have hz' : i.zero = some thZ := hz
      simp [execOp, Instr.alloc, typeInfo, hq, hz', newVar, newRow, thZ]
  · refine wpList_store_rowTo rfl 61 _ _ rfl rfl w.heap.size (thC t) hd hy 61 thZ.cells (heap_alloc_new w _) th_info thZ_size (th_one_arr t) ?_
    rw [World.setRow_alloc_new]
    exact h
theorem wpList_alloc61 {ops : Array Oper} {rest : List Oper} {a : Act} {w : World} {Q : Exit → Act → World → Prop} {d : Tmp} {ty1 : TypeId} {p1 : String} {f1 : Array Edge}
    (h : wpList Try.prog ops Q rest (a.put (some d) (.pointer (some ⟨w.heap.size, 0, none⟩))) (w.alloc (.cells (thC zeroTh) 61))) :
    wpList Try.prog ops Q ({ dst := some d, op := .alloc 61, type := ty1, pos := p1, after := f1, guard := none } :: rest) a w := by
  have hz := th_zero
  refine Great.wpList_runTo rfl _ rfl (.pointer (some ⟨w.heap.size, 0, none⟩)) (w.alloc (.cells thZ.cells 61)) ?_ h
  cases hq : Try.prog.info? 61 with
  | none => rw [hq] at hz; cases hz
  | some i =>
    rw [hq] at hz
    have hz' : i.zero = some thZ := hz
    simp [execOp, Instr.alloc, typeInfo, hq, hz', newVar, newRow, thZ]
/-- A thing is stored. -/
theorem wpList_store61 {ops : Array Oper} {rest : List Oper} {a : Act} {w : World} {Q : Exit → Act → World → Prop} {x y : Operand} {ty2 : TypeId} {p2 : String} {f2 : Array Edge} (t u : Th) (g : Nat) (hx : a.eval x = .pointer (some ⟨g, 0, none⟩)) (hy : a.eval y = .agg (thC t)) (hk : Blk w g 61 (thC u))
    (h : ∀ w', But (fun k => k = g) w w' → Blk w' g 61 (thC t) → wpList Try.prog ops Q rest a w') :
    wpList Try.prog ops Q ({ dst := none, op := .store 61 x y, type := ty2, pos := p2, after := f2, guard := none } :: rest) a w :=
  wpList_store_rowTo rfl 61 _ _ rfl rfl g (thC t) hx hy 61 (thC u) hk th_info rfl (th_one_arr t) (h _ (but_setRow w g _) (blk_setRow hk))
/-- A part of a block is stored. -/
theorem wpList_part {ops : Array Oper} {rest : List Oper} {a : Act} {w : World} {Q : Exit → Act → World → Prop} {x y : Operand} {ty ty2 : TypeId} {p2 : String} {f2 : Array Edge} {g off : Nat} {t : TypeId} {cur : List Value} {v : Value} (vs : List Value) (hx : a.eval x = .pointer (some ⟨g, off, none⟩)) (hy : a.eval y = v) (hk : Blk w g t cur.toArray) (hv : v.cells = vs.toArray) (hs : (Try.prog.info? ty).map (·.size) = some vs.length) (hfit : off + vs.length ≤ cur.length) (h1 : ∀ u ∈ vs, u.oneCell' = true)
    (h : ∀ w', But (fun k => k = g) w w' → Blk w' g t (splice cur off vs).toArray → wpList Try.prog ops Q rest a w') :
    wpList Try.prog ops Q ({ dst := none, op := .store ty x y, type := ty2, pos := p2, after := f2, guard := none } :: rest) a w := by
  refine wpList_plain rfl fun K hK => ?_
  unfold Oper.wp execOp
  simp only [hx, hy, Instr.storeAt, Instr.sureAddr, Sem.run_bind, Sem.run_pure, Result.andThen_ok, run_store_blk hk hv hs hfit h1]
  exact hK _ _ (h _ (but_setRow w g _) (blk_setRow hk))

/-- The thing that is handed back. -/
theorem th_run {w : World} {g : Nat} {t : Th} (h : Blk w g 61 (thC t)) {fn : Func} {p : Tmp} (hf : fn.results = #[.cell p 61]) (tmps : Array Value) (hp : tmps.getD p undef = .pointer (some ⟨g, 0, none⟩)) :
    (results fn tmps).run Try.prog w = .ok (.agg (thC t)) w :=
  results_cell_row hf tmps w g 61 (thC t) (0, 0) _ hp h Try.underlying61 rfl th_info
end Go.Proofs.Ytndohmimcbmhdaa

/- thing.Copy. -/
set_option linter.unusedVariables false
set_option linter.unusedSimpArgs false
namespace Go.Proofs.Ytndohmimcbmhdaa
open Go.RowKit Go.Sort

/-- A slice of the call's own. -/
def CatsF (B : Nat) (cs : List (Int × Int)) (W : World) (s : Sl) : Prop := CatsAt W W.heap.size s.a s.n s.c cs ∧ FreshA B s.a
def BytesF (B : Nat) (cs : List Int) (W : World) (s : Sl) : Prop := BytesAt W W.heap.size s.a s.n s.c cs ∧ FreshA B s.a
/-- It stays, where blocks ahead of B alone turn. -/
theorem CatsF.keep {D : Nat → Prop} {w w' : World} {B : Nat} {cs : List (Int × Int)} {s : Sl} (h : CatsF B cs w s) (hb : But D w w') (hD : ∀ k, D k → k < B) : CatsF B cs w' s := by
  obtain ⟨h, hf⟩ := h
  refine ⟨⟨h.len, h.cap, h.max, fun hn => ?_⟩, hf⟩
  obtain ⟨b, off, e, hlt, hc⟩ := h.cells hn
  have hB := hf _ e
  have hx : ∀ o, w'.cell? ⟨b, o, none⟩ = w.cell? ⟨b, o, none⟩ := fun o => by
    simp only [World.cell?, hb.block b hlt (fun hd => by have := hD b hd; have : B ≤ b := hB; omega)]
  exact ⟨b, off, e, Nat.lt_of_lt_of_le hlt hb.size, fun i x hi => ⟨(hx _).trans (hc i x hi).1, (hx _).trans (hc i x hi).2⟩⟩
theorem BytesF.keep {D : Nat → Prop} {w w' : World} {B : Nat} {cs : List Int} {s : Sl} (h : BytesF B cs w s) (hb : But D w w') (hD : ∀ k, D k → k < B) : BytesF B cs w' s := by
  obtain ⟨h, hf⟩ := h
  refine ⟨⟨h.len, h.cap, h.max, h.fit, fun hn => ?_⟩, hf⟩
  obtain ⟨b, off, e, hlt, hc⟩ := h.cells hn
  have hB := hf _ e
  have hx : ∀ o, w'.cell? ⟨b, o, none⟩ = w.cell? ⟨b, o, none⟩ := fun o => by
    simp only [World.cell?, hb.block b hlt (fun hd => by have := hD b hd; have : B ≤ b := hB; omega)]
  exact ⟨b, off, e, Nat.lt_of_lt_of_le hlt hb.size, fun i x hi => (hx _).trans (hc i x hi)⟩
def SlC (B : Nat) (cs : List (Int × Int)) (W : World) (v : Value) : Prop := ∃ s : Sl, v = .slice s.a s.n s.c ∧ CatsF B cs W s
def SlB (B : Nat) (cs : List Int) (W : World) (v : Value) : Prop := ∃ s : Sl, v = .slice s.a s.n s.c ∧ BytesF B cs W s
theorem SlC.stable {B : Nat} {cs : List (Int × Int)} {D : Nat → Prop} {w : World} (hD : ∀ k, D k → k < B) : (Leaves.rel (SlC B cs)).stable D w := fun _ _ _ _ hb ⟨s, e, h⟩ => ⟨s, e, h.keep hb hD⟩
theorem SlB.stable {B : Nat} {cs : List Int} {D : Nat → Prop} {w : World} (hD : ∀ k, D k → k < B) : (Leaves.rel (SlB B cs)).stable D w := fun _ _ _ _ hb ⟨s, e, h⟩ => ⟨s, e, h.keep hb hD⟩
theorem RetCats.sl {cs : List (Int × Int)} {f : Nat} {args : Array Value} {w : World} {B : Nat} (h : Calls Try.prog f args w fun e w' => RetCats cs w e w') (hB : B ≤ w.heap.size) : Calls Try.prog f args w fun e w' => ∃ v, e = .returned v ∧ SlC B cs w' v ∧ Below w.heap.size w w' :=
  h.mono fun _ _ ⟨A, n, c, he, hT, hF, hb⟩ => ⟨_, he, ⟨⟨A, n, c⟩, rfl, hT, fun a e => Nat.le_trans hB (hF a e)⟩, hb⟩
theorem RetBytes.sl {cs : List Int} {f : Nat} {args : Array Value} {w : World} {B : Nat} (h : Calls Try.prog f args w fun e w' => RetBytes cs w e w') (hB : B ≤ w.heap.size) : Calls Try.prog f args w fun e w' => ∃ v, e = .returned v ∧ SlB B cs w' v ∧ Below w.heap.size w w' :=
  h.mono fun _ _ ⟨A, n, c, he, hT, hF, hb⟩ => ⟨_, he, ⟨⟨A, n, c⟩, rfl, hT, fun a e => Nat.le_trans hB (hF a e)⟩, hb⟩

/-- A thing is handed back: its numbers are t's, its slices are the call's own and read as p. -/
def RetTh (t : Th) (p : Tl) (w : World) (e : Ending) (w' : World) : Prop := ∃ a b c d : Sl, e = .returned (.agg (thC (t.slices a b c d))) ∧ CatsF w.heap.size p.l1 w' a ∧ CatsF w.heap.size p.l2 w' b ∧ CatsF w.heap.size p.links w' c ∧ BytesF w.heap.size p.data w' d ∧ Below w.heap.size w w'
/-- What the box holds on the way. -/
def Got1 (g B : Nat) (t : Th) (p : Tl) (W : World) : Prop := ∃ a : Sl, Blk W g 61 (thC { t with l1 := a }) ∧ CatsF B p.l1 W a
def Got2 (g B : Nat) (t : Th) (p : Tl) (W : World) : Prop := ∃ a b : Sl, Blk W g 61 (thC { t with l1 := a, l2 := b }) ∧ CatsF B p.l1 W a ∧ CatsF B p.l2 W b
theorem Got1.stable {g B : Nat} {t : Th} {p : Tl} {D : Nat → Prop} {w : World} (hB : ∀ k, D k → k < B) : (Leaves.write (Got1 g B t p)).stable D w := fun _ _ _ hb ⟨a, hk, h⟩ => ⟨a, hb.blk hk (fun x => x), h.keep hb (fun _ x => x.elim)⟩
theorem Got2.stable {g B : Nat} {t : Th} {p : Tl} {D : Nat → Prop} {w : World} (hB : ∀ k, D k → k < B) : (Leaves.write (Got2 g B t p)).stable D w := fun _ _ _ hb ⟨a, b, hk, h, h'⟩ => ⟨a, b, hb.blk hk (fun x => x), h.keep hb (fun _ x => x.elim), h'.keep hb (fun _ x => x.elim)⟩
def Got3 (g B : Nat) (t : Th) (p : Tl) (W : World) : Prop := ∃ a : Sl, Blk W g 61 (thC { t with links := a }) ∧ CatsF B p.links W a
def Got4 (g B : Nat) (t : Th) (p : Tl) (W : World) : Prop := ∃ a b : Sl, Blk W g 61 (thC { t with links := a, data := b }) ∧ CatsF B p.links W a ∧ BytesF B p.data W b
theorem Got3.stable {g B : Nat} {t : Th} {p : Tl} {D : Nat → Prop} {w : World} (hB : ∀ k, D k → k < B) : (Leaves.write (Got3 g B t p)).stable D w := fun _ _ _ hb ⟨a, hk, h⟩ => ⟨a, hb.blk hk (fun x => x), h.keep hb (fun _ x => x.elim)⟩
theorem Got4.stable {g B : Nat} {t : Th} {p : Tl} {D : Nat → Prop} {w : World} (hB : ∀ k, D k → k < B) : (Leaves.write (Got4 g B t p)).stable D w := fun _ _ _ hb ⟨a, b, hk, h, h'⟩ => ⟨a, b, hb.blk hk (fun x => x), h.keep hb (fun _ x => x.elim), h'.keep hb (fun _ x => x.elim)⟩
theorem sl_size {T : TypeId} {v : Value} (h : (Try.prog.info? T).map (·.size) = some 1) : (Try.prog.info? T).map (·.size) = some [v].length := h
theorem size23 : (Try.prog.info? 23).map (·.size) = some 1 := by kernel_rfl
theorem size56 : (Try.prog.info? 56).map (·.size) = some 1 := by kernel_rfl
theorem size57 : (Try.prog.info? 57).map (·.size) = some 1 := by kernel_rfl
theorem one_slice (A : Option Addr) (n c : Nat) : ∀ u ∈ [Value.slice A n c], u.oneCell' = true := fun u hu => by rw [List.mem_singleton] at hu; subst hu; rfl

theorem CatsF.less {B B' : Nat} {cs : List (Int × Int)} {w : World} {s : Sl} (h : CatsF B cs w s) (hB : B' ≤ B) : CatsF B' cs w s := ⟨h.1, fun a e => Nat.le_trans hB (h.2 a e)⟩
theorem BytesF.less {B B' : Nat} {cs : List Int} {w : World} {s : Sl} (h : BytesF B cs w s) (hB : B' ≤ B) : BytesF B' cs w s := ⟨h.1, fun a e => Nat.le_trans hB (h.2 a e)⟩
theorem But.bytes {D : Nat → Prop} {a w : World} {B : Nat} {A : Option Addr} {n c : Nat} {bs : List Int} (h : But D a w) (k : BytesAt a B A n c bs) (hB : B ≤ a.heap.size) (hD : ∀ k, D k → B ≤ k) : BytesAt w w.heap.size A n c bs :=
  (k.below ((h.done (Below.refl B a) hD hB))).more (Nat.le_trans hB h.size)
/-- The same thing, its slices below B. -/
structure ThIn (w : World) (B : Nat) (t : Th) (p : Tl) : Prop where
  c1 : CatsAt w B t.l1.a t.l1.n t.l1.c p.l1
  c2 : CatsAt w B t.l2.a t.l2.n t.l2.c p.l2
  lk : CatsAt w B t.links.a t.links.n t.links.c p.links
  dt : BytesAt w B t.data.a t.data.n t.data.c p.data
theorem ThAt.in_ {w W : World} {t : Th} {p : Tl} (h : ThAt w t p) (hb : Below w.heap.size w W) : ThIn W w.heap.size t p := ⟨h.c1.below hb, h.c2.below hb, h.lk.below hb, h.dt.below hb⟩
theorem ThIn.but {D : Nat → Prop} {w W : World} {B : Nat} {t : Th} {p : Tl} (h : ThIn w B t p) (hb : But D w W) (hB : B ≤ w.heap.size) (hD : ∀ k, D k → B ≤ k) : ThAt W t p :=
  ⟨hb.cats h.c1 hB hD, hb.cats h.c2 hB hD, hb.cats h.lk hB hD, hb.bytes h.dt hB hD⟩
def at_ (g : Nat) : Nat → Prop := fun k => k = g

set_option maxHeartbeats 4000000 in
set_option maxRecDepth 100000 in
theorem copy91 (w : World) (t : Th) (p : Tl) (h : ThAt w t p) (z1 : t.l1.n ≤ 8796093022208) (z2 : t.l2.n ≤ 8796093022208) (z3 : t.links.n ≤ 8796093022208) (z4 : t.data.n ≤ 140737488355328) :
    Calls Try.prog 91 #[.agg (thC t)] w fun e w' => RetTh t p w e w' := by
  have mixed : Try.prog.follows .mixedOrders = true := by kernel_rfl
  obtain ⟨q0, q1, q2⟩ := two_blk w (thC t) (thC zeroTh) 61 61
  have HB := hid q0
  have HP1 := hid q1
  have HP2 := hid q2
  have H := hid (ThAt.in_ h q0)
  have hsz : (w.alloc (.cells (thC t) 61)).heap.size = w.heap.size + 1 := by simp
  clear h q0 q1 q2
  go_enter Try.func91, Try.ntmps91
  go_wp2_with (refine wpList_alloc61 ?_; rw [hsz])
  clear hsz
  simp only [Act.put, List.setIfInBounds_toArray, List.set_cons_zero, List.set_cons_succ, List.nil_append, List.cons_append, Nat.reduceAdd, Leaves.at]
  generalize (w.alloc (.cells (thC t) 61)).alloc (.cells (thC zeroTh) 61) = wa at *
  have hlt := HP1.out.lt
  have hlt2 : w.heap.size + 1 < wa.heap.size := HP2.out.lt
  have hD : ∀ k, at_ w.heap.size k → w.heap.size ≤ k := fun k e => Nat.le_of_eq e.symm
  have hD2 : ∀ k, at_ w.heap.size k → k < wa.heap.size := fun k e => by have : k = w.heap.size := e; omega
  have HF : Hid (∀ W, But nil_ wa W → W.cell? ⟨w.heap.size, 3, none⟩ = some (.slice t.l1.a t.l1.n t.l1.c) ∧ W.cell? ⟨w.heap.size, 5, none⟩ = some (.slice t.l2.a t.l2.n t.l2.c)) := fun W hW => by
    have r := hW.blk HP1.out (fun h => h)
    exact ⟨(Blk.cell r 3).trans rfl, (Blk.cell r 5).trans rfl⟩
  refine wp_region_toldw 14 (at_ w.heap.size) mixed (by kernel_rfl) ?_
  simp only [List.take_succ_cons, List.take_zero, List.drop_succ_cons, List.drop_zero]
  repeat (refine told_early (v := ?_) rfl (fun _ => rfl) (fun vs W hW => ?_) ?_; rotate_left; (focus (have hf := HF.out W hW; clear hW; go_simp; exact loose_early)); simp only [Act.put, List.setIfInBounds_toArray, List.set_cons_zero, List.set_cons_succ, List.nil_append, List.cons_append, Nat.reduceAdd, Leaves.at])
  refine told_rel (SlC wa.heap.size p.l1) (SlC.stable hD2) (fun _ => rfl) (fun vs W hW hd => ?_) ?_
  · clear hd; go_simp; exact loose_callR (RetCats.sl (clone92_r W _ _ _ _ (H.out.but hW (Nat.le_of_lt hlt) hD).c1 z1) hW.size)
  simp only [Act.put, List.setIfInBounds_toArray, List.set_cons_zero, List.set_cons_succ, List.nil_append, List.cons_append, Nat.reduceAdd, Leaves.at]
  repeat (refine told_early (v := ?_) rfl (fun _ => rfl) (fun vs W hW => ?_) ?_; rotate_left; (focus (have hf := HF.out W hW; clear hW; go_simp; exact loose_early)); simp only [Act.put, List.setIfInBounds_toArray, List.set_cons_zero, List.set_cons_succ, List.nil_append, List.cons_append, Nat.reduceAdd, Leaves.at])
  refine told_rel (SlC wa.heap.size p.l2) (SlC.stable hD2) (fun _ => rfl) (fun vs W hW hd => ?_) ?_
  · clear hd; go_simp; exact loose_callR (RetCats.sl (clone92_r W _ _ _ _ (H.out.but hW (Nat.le_of_lt hlt) hD).c2 z2) hW.size)
  simp only [Act.put, List.setIfInBounds_toArray, List.set_cons_zero, List.set_cons_succ, List.nil_append, List.cons_append, Nat.reduceAdd, Leaves.at]
  repeat (refine told_val (v := ?_) (fun _ => rfl) (fun vs W hW => ?_) ?_; rotate_left; (focus (clear hW; go_simp; exact loose_val)); simp only [Act.put, List.setIfInBounds_toArray, List.set_cons_zero, List.set_cons_succ, List.nil_append, List.cons_append, Nat.reduceAdd, Leaves.at])
  refine told_write0 (C := (Got1 w.heap.size wa.heap.size t p)) (hs := Got1.stable hD2) (hno := by kernel_rfl) (h0 := rfl) (hw := fun _ => rfl) (hr := fun vs W hW hd => ?_) ?_
  · obtain ⟨s, e, hs⟩ := hd ⟨3, .data⟩ (by simp) rfl _ rfl (fun h => by cases h); clear hd; exact loose_store (v := .slice s.a s.n s.c) (vs := [.slice s.a s.n s.c]) (cur := t.cells) rfl rfl e (hW.blk HP1.out (fun h => h)) rfl size23 (Nat.le_of_ble_eq_true rfl) (one_slice _ _ _) rfl (fun W' hb hk => ⟨s, hk, hs.keep hb hD2⟩)
  simp only [Act.put, List.setIfInBounds_toArray, List.set_cons_zero, List.set_cons_succ, List.nil_append, List.cons_append, Nat.reduceAdd, Leaves.at]
  repeat (refine told_val (v := ?_) (fun _ => rfl) (fun vs W hW => ?_) ?_; rotate_left; (focus (clear hW; go_simp; exact loose_val)); simp only [Act.put, List.setIfInBounds_toArray, List.set_cons_zero, List.set_cons_succ, List.nil_append, List.cons_append, Nat.reduceAdd, Leaves.at])
  refine told_write1 (j := 10) (C0 := _) (C := (Got2 w.heap.size wa.heap.size t p)) (hj := rfl) (h1 := rfl) (hs := Got2.stable hD2) (hno := by kernel_rfl) (hw := fun _ => rfl) (hr := fun vs W hW hC hd => ?_) ?_
  · obtain ⟨a, hk0, ha⟩ := hC; obtain ⟨s, e, hs⟩ := hd ⟨7, .data⟩ (by simp) rfl _ rfl (fun h => by cases h); clear hd; exact loose_store (v := .slice s.a s.n s.c) (vs := [.slice s.a s.n s.c]) (cur := { t with l1 := a }.cells) rfl rfl e hk0 rfl size23 (Nat.le_of_ble_eq_true rfl) (one_slice _ _ _) rfl (fun W' hb hk => ⟨a, s, hk, ha.keep hb hD2, hs.keep hb hD2⟩)
  simp only [Act.put, List.setIfInBounds_toArray, List.set_cons_zero, List.set_cons_succ, List.nil_append, List.cons_append, Nat.reduceAdd, Leaves.at]
  refine told_nil ?_
  intro vs W1 hW1 hok hap hwr
  have hC := hwr 13 _ rfl (noWr_of rfl)
  clear hap hwr
  dsimp only
  obtain ⟨a, b, hk1, ha, hb⟩ := hC
  have HK1 := hid hk1
  have HA := hid ha
  have HC := hid hb
  have HX := hid (hW1.blk HP2.out (fun h => by have : w.heap.size + 1 = w.heap.size := h; omega))
  have HB1 := hid (hW1.done HB.out hD (Nat.le_of_lt hlt))
  have H1 : Hid (ThIn W1 w.heap.size t p) := by
    have hbl := hW1.done (Below.refl w.heap.size wa) hD (Nat.le_of_lt hlt)
    exact ⟨H.out.c1.below hbl, H.out.c2.below hbl, H.out.lk.below hbl, H.out.dt.below hbl⟩
  have hlt1 : w.heap.size < W1.heap.size := HK1.out.lt
  have hsz1 : wa.heap.size ≤ W1.heap.size := hW1.size
  clear hok hW1 hk1 ha hb HP1 HF HB H HP2
  have hD3 : ∀ k, at_ w.heap.size k → k < W1.heap.size := fun k e => by have : k = w.heap.size := e; omega
  have HF : Hid (∀ W, But nil_ W1 W → W.cell? ⟨w.heap.size, 8, none⟩ = some (.slice t.links.a t.links.n t.links.c) ∧ W.cell? ⟨w.heap.size, 9, none⟩ = some (.slice t.data.a t.data.n t.data.c)) := fun W hW => by
    have r := hW.blk HK1.out (fun h => h)
    exact ⟨(Blk.cell r 8).trans rfl, (Blk.cell r 9).trans rfl⟩
  go_wp2_with fail
  refine wp_region_toldw 10 (at_ w.heap.size) mixed (by kernel_rfl) ?_
  simp only [List.take_succ_cons, List.take_zero, List.drop_succ_cons, List.drop_zero]
  repeat (refine told_early (v := ?_) rfl (fun _ => rfl) (fun vs W hW => ?_) ?_; rotate_left; (focus (have hf := HF.out W hW; clear hW; go_simp; exact loose_early)); simp only [Act.put, List.setIfInBounds_toArray, List.set_cons_zero, List.set_cons_succ, List.nil_append, List.cons_append, Nat.reduceAdd, Leaves.at])
  refine told_rel (SlC W1.heap.size p.links) (SlC.stable hD3) (fun _ => rfl) (fun vs W hW hd => ?_) ?_
  · clear hd; go_simp; exact loose_callR (RetCats.sl (clone146 W _ _ _ _ (H1.out.but hW (Nat.le_of_lt hlt1) hD).lk z3) hW.size)
  simp only [Act.put, List.setIfInBounds_toArray, List.set_cons_zero, List.set_cons_succ, List.nil_append, List.cons_append, Nat.reduceAdd, Leaves.at]
  repeat (refine told_early (v := ?_) rfl (fun _ => rfl) (fun vs W hW => ?_) ?_; rotate_left; (focus (have hf := HF.out W hW; clear hW; go_simp; exact loose_early)); simp only [Act.put, List.setIfInBounds_toArray, List.set_cons_zero, List.set_cons_succ, List.nil_append, List.cons_append, Nat.reduceAdd, Leaves.at])
  refine told_rel (SlB W1.heap.size p.data) (SlB.stable hD3) (fun _ => rfl) (fun vs W hW hd => ?_) ?_
  · clear hd; go_simp; exact loose_callR (RetBytes.sl (clone147 W _ _ _ _ (H1.out.but hW (Nat.le_of_lt hlt1) hD).dt z4) hW.size)
  simp only [Act.put, List.setIfInBounds_toArray, List.set_cons_zero, List.set_cons_succ, List.nil_append, List.cons_append, Nat.reduceAdd, Leaves.at]
  repeat (refine told_val (v := ?_) (fun _ => rfl) (fun vs W hW => ?_) ?_; rotate_left; (focus (clear hW; go_simp; exact loose_val)); simp only [Act.put, List.setIfInBounds_toArray, List.set_cons_zero, List.set_cons_succ, List.nil_append, List.cons_append, Nat.reduceAdd, Leaves.at])
  refine told_write0 (C := (Got3 w.heap.size W1.heap.size {t with l1 := a, l2 := b} p)) (hs := Got3.stable hD3) (hno := by kernel_rfl) (h0 := rfl) (hw := fun _ => rfl) (hr := fun vs W hW hd => ?_) ?_
  · obtain ⟨s, e, hs⟩ := hd ⟨2, .data⟩ (by simp) rfl _ rfl (fun h => by cases h); clear hd; exact loose_store (v := .slice s.a s.n s.c) (vs := [.slice s.a s.n s.c]) (cur := { t with l1 := a, l2 := b }.cells) rfl rfl e (hW.blk HK1.out (fun h => h)) rfl size56 (Nat.le_of_ble_eq_true rfl) (one_slice _ _ _) rfl (fun W' hb hk => ⟨s, hk, hs.keep hb hD3⟩)
  simp only [Act.put, List.setIfInBounds_toArray, List.set_cons_zero, List.set_cons_succ, List.nil_append, List.cons_append, Nat.reduceAdd, Leaves.at]
  repeat (refine told_val (v := ?_) (fun _ => rfl) (fun vs W hW => ?_) ?_; rotate_left; (focus (clear hW; go_simp; exact loose_val)); simp only [Act.put, List.setIfInBounds_toArray, List.set_cons_zero, List.set_cons_succ, List.nil_append, List.cons_append, Nat.reduceAdd, Leaves.at])
  refine told_write1 (j := 7) (C0 := _) (C := (Got4 w.heap.size W1.heap.size {t with l1 := a, l2 := b} p)) (hj := rfl) (h1 := rfl) (hs := Got4.stable hD3) (hno := by kernel_rfl) (hw := fun _ => rfl) (hr := fun vs W hW hC hd => ?_) ?_
  · obtain ⟨c, hk0, ha⟩ := hC; obtain ⟨s, e, hs⟩ := hd ⟨5, .data⟩ (by simp) rfl _ rfl (fun h => by cases h); clear hd; exact loose_store (v := .slice s.a s.n s.c) (vs := [.slice s.a s.n s.c]) (cur := { t with l1 := a, l2 := b, links := c }.cells) rfl rfl e hk0 rfl size57 (Nat.le_of_ble_eq_true rfl) (one_slice _ _ _) rfl (fun W' hb hk => ⟨c, s, hk, ha.keep hb hD3, hs.keep hb hD3⟩)
  simp only [Act.put, List.setIfInBounds_toArray, List.set_cons_zero, List.set_cons_succ, List.nil_append, List.cons_append, Nat.reduceAdd, Leaves.at]
  refine told_nil ?_
  intro vs W2 hW2 hok hap hwr
  have hC := hwr 9 _ rfl (noWr_of rfl)
  clear hap hwr
  dsimp only
  obtain ⟨c, d, hk2, hc, hd⟩ := hC
  have HK2 := hid hk2
  have HCc := hid hc
  have HCd := hid hd
  have HAa := hid (HA.out.keep hW2 hD2)
  have HAb := hid (HC.out.keep hW2 hD2)
  have HX2 := hid (hW2.blk HX.out (fun h => by have : w.heap.size + 1 = w.heap.size := h; omega))
  have HB2 := hid (hW2.done HB1.out hD (Nat.le_of_lt hlt1))
  clear hok hW2 hk2 hc hd HK1 HF HB1 HA HC HX H1
  go_wp2_with (first | (refine wpList_load61 { t with l1 := a, l2 := b, links := c, data := d } w.heap.size rfl HK2.out ?_) | (refine wpList_store61 { t with l1 := a, l2 := b, links := c, data := d } zeroTh (w.heap.size + 1) rfl rfl HX2.out ?_; intro W3 hb3 hk3))
  have hsw : wa.heap.size ≤ W1.heap.size := hsz1
  have hD4 : ∀ k, k = w.heap.size + 1 → k < wa.heap.size := fun k e => by omega
  have hD5 : ∀ k, k = w.heap.size + 1 → k < W1.heap.size := fun k e => by omega
  refine bodyPost_ret (th_run hk3 rfl _ rfl) rfl ⟨a, b, c, d, rfl, (HAa.out.keep hb3 hD4).less (by omega), (HAb.out.keep hb3 hD4).less (by omega), (HCc.out.keep hb3 hD5).less (by omega), (HCd.out.keep hb3 hD5).less (by omega), ?_⟩
  exact hb3.done HB2.out (fun k e => by omega) (Nat.le_of_lt (Nat.lt_of_succ_lt HX2.out.lt))
end Go.Proofs.Ytndohmimcbmhdaa
