/- Slices of categories that are read: a search by a test, whether one meets a test, a copy. -/
import Derived.Test.YtndohmimcbmhdaaCmp
set_option linter.unusedVariables false
set_option linter.unusedSimpArgs false
namespace Go.Proofs.Ytndohmimcbmhdaa
open Go.RowKit

/-- A slice value that reads as cs, below block B. -/
structure CatsAt (w : World) (B : Nat) (A : Option Addr) (n c : Nat) (cs : List (Int × Int)) : Prop where
  len : cs.length = n
  cap : n ≤ c
  max : c ≤ maxLen
  cells : 0 < n → ∃ b off, A = some ⟨b, off, none⟩ ∧ b < B ∧ ∀ i x, cs[i]? = some x → w.cell? ⟨b, off + i * 2, none⟩ = some (.int .u64 x.1) ∧ w.cell? ⟨b, off + i * 2 + 1, none⟩ = some (.int .i64 x.2)

section
variable {w w' : World} {B B' : Nat} {A : Option Addr} {n c : Nat} {cs : List (Int × Int)}
theorem CatsAt.below (h : CatsAt w B A n c cs) (hb : Below B w w') : CatsAt w' B A n c cs :=
  ⟨h.len, h.cap, h.max, fun hn => by
    obtain ⟨b, off, e, hB, hc⟩ := h.cells hn
    exact ⟨b, off, e, hB, fun i x hx => ⟨(hb.cell (p := ⟨b, off + i * 2, none⟩) hB).trans (hc i x hx).1, (hb.cell (p := ⟨b, off + i * 2 + 1, none⟩) hB).trans (hc i x hx).2⟩⟩⟩
theorem CatsAt.more (h : CatsAt w B A n c cs) (hB : B ≤ B') : CatsAt w B' A n c cs :=
  ⟨h.len, h.cap, h.max, fun hn => by
    obtain ⟨b, off, e, hb, hc⟩ := h.cells hn
    exact ⟨b, off, e, by omega, hc⟩⟩
theorem CatsAt.nil_ : CatsAt w B none 0 0 [] := ⟨rfl, Nat.le_refl _, by simp [maxLen], fun h => absurd h (by omega)⟩
theorem CatsAt.of_row {g : Nat} {tl : List Value} (h : Row w g cs tl) (hc : cs.length ≤ c) (hm : c ≤ maxLen) : CatsAt w w.heap.size (some ⟨g, 0, none⟩) cs.length c cs :=
  ⟨rfl, hc, hm, fun _ => ⟨g, 0, rfl, h.lt, fun i x hx => by simp only [Nat.zero_add]; exact ⟨h.cell0 hx, h.cell1 hx⟩⟩⟩
theorem CatsAt.reads (h : CatsAt w B A n c cs) : Reads w B 2 A n (flat cs) := by
  refine ⟨by rw [flat_length, h.len], fun hn => ?_⟩
  obtain ⟨b, off, e, hb, hc⟩ := h.cells hn
  refine ⟨⟨b, off, none⟩, e, hb, fun j u hu => ?_⟩
  have hj : j < cs.length * 2 := by rw [← flat_length]; exact (List.getElem?_eq_some_iff.1 hu).1
  have hi : j / 2 < cs.length := by omega
  have hx := List.getElem?_eq_getElem hi
  have ha : (⟨b, off, none⟩ : Addr).add j = ⟨b, off + j, none⟩ := by unfold Addr.add; split <;> simp_all
  rw [ha]
  by_cases hp : j % 2 = 0
  · have e : j = j / 2 * 2 := by omega
    have e0 := flat_get0 cs _ _ hx
    rw [← e, hu] at e0
    have := (hc _ _ hx).1
    rw [← e] at this
    rw [this]; exact e0.symm
  · have e : j = j / 2 * 2 + 1 := by omega
    have e0 := flat_get1 cs _ _ hx
    rw [← e, hu] at e0
    have := (hc _ _ hx).2
    rw [show off + j / 2 * 2 + 1 = off + (j / 2 * 2 + 1) by omega, ← e] at this
    rw [this]; exact e0.symm
theorem CatsAt.at_ (h : CatsAt w B A n c cs) {k : Nat} (hk : k < n) : ∃ b off x, A = some ⟨b, off, none⟩ ∧ b < B ∧ cs[k]? = some x ∧ w.cell? ⟨b, off + k * 2, none⟩ = some (.int .u64 x.1) ∧ w.cell? ⟨b, off + k * 2 + 1, none⟩ = some (.int .i64 x.2) := by
  obtain ⟨b, off, e, hb, hc⟩ := h.cells (by omega)
  have hx := List.getElem?_eq_getElem (l := cs) (i := k) (by have := h.len; omega)
  exact ⟨b, off, _, e, hb, hx, hc _ _ hx⟩
end

/-- What a test that the library is handed must do, from w on: answer p, and leave all that lay in w. -/
def TestOk (fn : Nat) (cb : Array Value) (p : Int × Int → Bool) (w : World) : Prop :=
  ∀ W, Below w.heap.size w W → ∀ x : Int × Int, Calls Try.prog fn (#[.agg #[.int .u64 x.1, .int .i64 x.2]] ++ cb) W fun e w' => e = .returned (.bool (p x)) ∧ Below w.heap.size w w'

def idxOf (p : Int × Int → Bool) (cs : List (Int × Int)) : Int := match cs.findIdx? p with | some i => (i : Int) | none => -1

theorem idxOf_hit {p : Int × Int → Bool} {cs : List (Int × Int)} {k : Nat} {x : Int × Int} (hx : cs[k]? = some x) (hp : p x = true) (hno : ∀ j y, j < k → cs[j]? = some y → p y = false) : idxOf p cs = (k : Int) := by
  unfold idxOf
  have : cs.findIdx? p = some k := by
    rw [List.findIdx?_eq_some_iff_getElem]
    obtain ⟨hk, rfl⟩ := List.getElem?_eq_some_iff.1 hx
    exact ⟨hk, hp, fun j hj => by rw [hno j _ hj (List.getElem?_eq_getElem (by omega))]; exact Bool.false_ne_true⟩
  rw [this]
theorem idxOf_miss {p : Int × Int → Bool} {cs : List (Int × Int)} (hno : ∀ (j : Nat) (y : Int × Int), cs[j]? = some y → p y = false) : idxOf p cs = -1 := by
  unfold idxOf
  have : cs.findIdx? p = none := by
    rw [List.findIdx?_eq_none_iff]
    intro x hx
    obtain ⟨k, hk, rfl⟩ := List.getElem_of_mem hx
    exact hno k _ (List.getElem?_eq_getElem hk)
  rw [this]
theorem idxOf_nonneg (p : Int × Int → Bool) (cs : List (Int × Int)) : decide (0 ≤ idxOf p cs) = cs.any p := by
  unfold idxOf
  cases h : cs.findIdx? p with
  | none =>
    rw [List.findIdx?_eq_none_iff] at h
    have : cs.any p = false := by rw [List.any_eq_false]; intro x hx; rw [h x hx]; exact Bool.false_ne_true
    rw [this]; rfl
  | some k =>
    obtain ⟨hk, hp, _⟩ := List.findIdx?_eq_some_iff_getElem.1 h
    have : cs.any p = true := List.any_eq_true.2 ⟨_, List.getElem_mem hk, hp⟩
    rw [this]; simp

theorem ret_i64 {a b : Int} (h : a = b) : Ending.returned (.int .i64 a) = Ending.returned (.int .i64 b) := by rw [h]
theorem ret_u64 {a b : Int} (h : a = b) : Ending.returned (.int .u64 a) = Ending.returned (.int .u64 b) := by rw [h]
theorem ret_bool {a b : Bool} (h : a = b) : Ending.returned (.bool a) = Ending.returned (.bool b) := by rw [h]

set_option maxHeartbeats 1000000 in
theorem indexFunc150 (w : World) (A : Option Addr) (n c : Nat) (cs : List (Int × Int)) (fn : Nat) (cb : Array Value) (p : Int × Int → Bool) (h : CatsAt w w.heap.size A n c cs) (ht : TestOk fn cb p w) (eg : ∀ args w, (callFunc fn args).run Try.prog w = .ok (.enter fn args) w) :
    Calls Try.prog 150 #[.slice A n c, .func (.func fn) #[] cb] w fun e w' => e = .returned (.int .i64 (idxOf p cs)) ∧ Below w.heap.size w w' := by
  have hm : n ≤ 9223372036854775807 := by have := h.cap; have := h.max; unfold maxLen at this; omega
  have HT : Hid (TestOk fn cb p w) := ht
  have H := hid h
  clear h ht
  go_enter Try.func150, Try.ntmps150
  go_wp2_with fail
  go_loopw [8] (fun vi wr => ∃ k : Nat, k ≤ n ∧ vi = .int .i64 k ∧ Hid (Below w.heap.size w wr) ∧ Hid (∀ j y, j < k → cs[j]? = some y → p y = false)) (fun vi _ => n - (intOf vi).toNat)
  case atStart => exact ⟨0, Nat.zero_le _, rfl, Below.refl _ w, fun j y hj => absurd hj (Nat.not_lt_zero _)⟩
  case round =>
    obtain ⟨k, hk, rfl, BW, AL⟩ := hrel
    by_cases hlt : k < n
    · have hltz : (k : Int) < (n : Int) := by omega
      obtain ⟨b, off, x, rfl, hbB, hx, c0, c1⟩ := (H.out.below BW.out).at_ hlt
      have hcall := HT.out wr BW.out x
      have HX := hid hx
      clear hx
      cases hq : p x with
      | true =>
        rw [hq] at hcall
        have HQ := hid hq
        clear hq
        go_wp2_with (go_at_fn fn; refine hcall.mono ?_; rintro e w' ⟨rfl, hb'⟩)
        go_ret
        exact ⟨ret_i64 (idxOf_hit HX.out HQ.out AL.out).symm, hb'⟩
      | false =>
        rw [hq] at hcall
        have HQ := hid hq
        clear hq
        go_wp2_with (go_at_fn fn; refine hcall.mono ?_; rintro e w' ⟨rfl, hb'⟩)
        go_roundw
        case measure => simp [intOf] <;> omega
        case rel =>
          refine ⟨k + 1, by omega, by go_num, hb', (show Hid _ from fun j y hj hy => ?_)⟩
          by_cases e : j = k
          · subst e
            have := HX.out
            rw [hy] at this; cases this
            exact HQ.out
          · exact AL.out j y (by omega) hy
    · have hltz : ¬ (k : Int) < (n : Int) := by omega
      go_wp2_with fail
      go_ret
      refine ⟨ret_i64 (idxOf_miss fun j y hy => AL.out j y ?_ hy).symm, BW.out⟩
      have := (List.getElem?_eq_some_iff.1 hy).1
      have := H.out.len
      omega

set_option maxHeartbeats 400000 in
theorem containsFunc102 (w : World) (A : Option Addr) (n c : Nat) (cs : List (Int × Int)) (fn : Nat) (cb : Array Value) (p : Int × Int → Bool) (h : CatsAt w w.heap.size A n c cs) (ht : TestOk fn cb p w) (eg : ∀ args w, (callFunc fn args).run Try.prog w = .ok (.enter fn args) w) :
    Calls Try.prog 102 #[.slice A n c, .func (.func fn) #[] cb] w fun e w' => e = .returned (.bool (cs.any p)) ∧ Below w.heap.size w w' := by
  have HC := hid (indexFunc150 w A n c cs fn cb p h ht eg)
  have HE := hid (idxOf_nonneg p cs)
  clear h ht eg
  generalize idxOf p cs = r at *
  go_enter Try.func102, Try.ntmps102
  go_wp2_with fail
  refine HC.out.mono ?_
  rintro e w1 ⟨rfl, hb⟩
  have HB := hid hb
  clear hb HC
  go_wp2_with fail
  go_ret
  exact ⟨ret_bool HE.out, HB.out⟩

theorem cat_info : (Try.prog.info? 32).map (fun i => (i.zero, i.size, i.bytes)) = some (some (.agg #[.int .u64 0, .int .i64 0]), 2, 16) := by kernel_rfl

/-- A slice value of the call's own that holds cs: nil, or a block from base on. -/
def OwnCats (w : World) (base : Nat) (v : Value) (cs : List (Int × Int)) : Prop :=
  (v = .slice none 0 0 ∧ cs = []) ∨
  ∃ g cap tl, v = .slice (some ⟨g, 0, none⟩) cs.length cap ∧ base ≤ g ∧ cs.length ≤ cap ∧ cap ≤ maxLen ∧ Row w g cs tl ∧ (flat cs ++ tl).length = cap * 2

theorem OwnCats.of_own {w : World} {base : Nat} {v : Value} {cs : List (Int × Int)} (h : w.ownsRow base 32 2 v cs.length (flat cs)) : OwnCats w base v cs := by
  obtain ⟨h1, h2⟩ := h
  rcases h2 with ⟨rfl, hn⟩ | ⟨g, cap, cur, rfl, hb, hh, hnc, hcm, hsz, htk⟩
  · exact .inl ⟨rfl, List.eq_nil_of_length_eq_zero hn⟩
  · refine .inr ⟨g, cap, cur.toList.drop (cs.length * 2), rfl, hb, hnc, hcm, ?_, ?_⟩
    · unfold Row Blk
      rw [← htk, List.take_append_drop, Array.toArray_toList]
      exact hh
    · rw [← htk, List.take_append_drop, Array.length_toList]; exact hsz
theorem OwnCats.at_ {w : World} {base : Nat} {v : Value} {cs : List (Int × Int)} (h : OwnCats w base v cs) : ∃ A n c, v = .slice A n c ∧ CatsAt w w.heap.size A n c cs := by
  rcases h with ⟨rfl, rfl⟩ | ⟨g, cap, tl, rfl, hb, hc, hm, hr, _⟩
  · exact ⟨none, 0, 0, rfl, CatsAt.nil_⟩
  · exact ⟨_, _, _, rfl, CatsAt.of_row hr hc hm⟩
theorem OwnCats.below {w w' : World} {base : Nat} {v : Value} {cs : List (Int × Int)} (h : OwnCats w base v cs) (hb : Below w.heap.size w w') : OwnCats w' base v cs := by
  rcases h with h | ⟨g, cap, tl, e, hb', hc, hm, hr, hl⟩
  · exact .inl h
  · exact .inr ⟨g, cap, tl, e, hb', hc, hm, hr.below hb hr.lt, hl⟩

set_option maxHeartbeats 1000000 in
/-- slices.Clone: the same categories in memory of the call's own. -/
theorem clone92 (w : World) (A : Option Addr) (n c : Nat) (cs : List (Int × Int)) (h : CatsAt w w.heap.size A n c cs) (hn : n ≤ 8796093022208) :
    Calls Try.prog 92 #[.slice A n c] w fun e w' => ∃ v, e = .returned v ∧ OwnCats w' w.heap.size v cs ∧ Below w.heap.size w w' := by
  obtain ⟨i0, hi0, hz0, hz1, hz2⟩ := info_parts cat_info
  have hnil := fun W : World => Lib.run_eql_slice_nil (P := Try.prog) W 23 32 A n c 0 0 Try.underlying23
  cases A with
  | none =>
    have hn0 : n = 0 := by
      rcases Nat.eq_zero_or_pos n with h0 | h0
      · exact h0
      · obtain ⟨b, off, e, _⟩ := h.cells h0; cases e
    have hcs : cs = [] := List.eq_nil_of_length_eq_zero (by have := h.len; omega)
    have HC := hid hcs
    clear hcs h hn0
    go_enter Try.func92, Try.ntmps92
    go_wp2_with fail
    go_ret
    exact ⟨_, rfl, .inl ⟨rfl, HC.out⟩, Below.refl _ _⟩
  | some ad =>
    have hr := h.reads
    have hone := flat_one cs
    have hlen := hid h.len
    clear h
    go_enter Try.func92, Try.ntmps92
    go_wp2_with (at_builtin
                 refine wpList_append_any _ rfl (.tmp 5) (.tmp 6) _ rfl w.heap.size 32 i0 _ 2 16 Try.underlying23 hi0 hz0 hz1 hz2 rfl (by omega) (.slice (some ⟨w.heap.size, 0, none⟩) 0 0) 0 [] rfl
                   (World.ownsRow_made w #[] 0 (Nat.le_refl _) (by simp [maxLen]) rfl) w.heap.size (some ad) n c (flat cs) rfl (hr.alloc (Nat.le_refl _) _) hone (by simp only [maxLen]; omega) (by omega) (by simp) ?_
                 intro v1 w1 hown1 hg1 hat1
                 have hb1 : Below w.heap.size w w1 := ((Below.refl _ _).alloc (Nat.le_refl _) _).grown hg1 (by simp) (by simp [Value.ownBlock]))
    go_ret
    refine ⟨v1, rfl, OwnCats.of_own ?_, hb1⟩
    rw [hlen.out]
    simpa using hown1

end Go.Proofs.Ytndohmimcbmhdaa
