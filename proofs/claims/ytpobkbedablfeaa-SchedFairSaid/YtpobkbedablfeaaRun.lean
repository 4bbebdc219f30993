/- Index, Contains, Runs, Turn, Tick. -/
import Derived.Test.YtpobkbedablfeaaLive
namespace Go.Proofs.Ytpobkbedablfeaa
open Go.RowKit

/-- A slice value that reads as numbers, below block B. -/
structure NumsAt (w : World) (B : Nat) (A : Option Addr) (n c : Nat) (l : List Int) : Prop where
  len : l.length = n
  cap : n ≤ c
  max : c ≤ maxLen
  cells : 0 < n → ∃ b off, A = some ⟨b, off, none⟩ ∧ b < B ∧ ∀ i x, l[i]? = some x → w.cell? ⟨b, off + i, none⟩ = some (.int .u64 x)

section
variable {w w' : World} {B B' : Nat} {A : Option Addr} {n c : Nat} {l : List Int}
theorem NumsAt.below (h : NumsAt w B A n c l) (hb : Below B w w') : NumsAt w' B A n c l :=
  ⟨h.len, h.cap, h.max, fun hn => by
    obtain ⟨b, off, e, hB, hc⟩ := h.cells hn
    exact ⟨b, off, e, hB, fun i x hx => (hb.cell (p := ⟨b, off + i, none⟩) hB).trans (hc i x hx)⟩⟩
theorem NumsAt.more (h : NumsAt w B A n c l) (hB : B ≤ B') : NumsAt w B' A n c l :=
  ⟨h.len, h.cap, h.max, fun hn => by
    obtain ⟨b, off, e, hb, hc⟩ := h.cells hn
    exact ⟨b, off, e, by omega, hc⟩⟩
theorem NumsAt.at_ (h : NumsAt w B A n c l) {k : Nat} (hk : k < n) : ∃ b off x, A = some ⟨b, off, none⟩ ∧ b < B ∧ l[k]? = some x ∧ w.cell? ⟨b, off + k, none⟩ = some (.int .u64 x) := by
  obtain ⟨b, off, e, hb, hc⟩ := h.cells (by omega)
  have hx := List.getElem?_eq_getElem (l := l) (i := k) (by have := h.len; omega)
  exact ⟨b, off, _, e, hb, hx, hc _ _ hx⟩
theorem NumsAt.of_own {base : Nat} {v : Value} (h : OwnNums w base v l) : ∃ A c, v = .slice A l.length c ∧ NumsAt w w.heap.size A l.length c l := by
  obtain ⟨h1, h2⟩ := h
  rcases h2 with ⟨rfl, hn⟩ | ⟨g, cap, cur, rfl, hb, hh, hnc, hcm, hsz, htk⟩
  · exact ⟨none, 0, by rw [hn], ⟨rfl, by omega, by simp [maxLen], fun h => absurd h (by omega)⟩⟩
  · refine ⟨some ⟨g, 0, none⟩, cap, rfl, ⟨rfl, hnc, hcm, fun _ => ⟨g, 0, rfl, ?_, fun i x hx => ?_⟩⟩⟩
    · exact Blk.lt (t := 22) (cs := cur) hh
    · have hc := Blk.cell (t := 22) (cs := cur) hh i
      rw [Nat.zero_add, hc]
      have hi : i < l.length := (List.getElem?_eq_some_iff.1 hx).1
      have e : (nums l)[i]? = some (.int .u64 x) := by simp [nums, hx]
      rw [← htk, List.getElem?_take] at e
      have : i < l.length * 1 := by omega
      rw [if_pos this] at e
      simpa using e
end

theorem OwnNums.below {w w' : World} {base : Nat} {v : Value} {l : List Int} (h : OwnNums w base v l) (hb : Below w.heap.size w w') : OwnNums w' base v l := by
  obtain ⟨h1, h2⟩ := h
  refine ⟨h1, ?_⟩
  rcases h2 with h | ⟨g, cap, cur, e, hb', hh, hr⟩
  · exact .inl h
  · exact .inr ⟨g, cap, cur, e, hb', (hb.block g (Blk.lt (t := 22) (cs := cur) hh)).trans hh, hr⟩

def idxOf (x : Int) (l : List Int) : Int := match l.findIdx? (fun y => x == y) with | some i => (i : Int) | none => -1
theorem idxOf_hit {x : Int} {l : List Int} {k : Nat} {y : Int} (hx : l[k]? = some y) (hp : x = y) (hno : ∀ (j : Nat) (z : Int), j < k → l[j]? = some z → ¬ x = z) : idxOf x l = (k : Int) := by
  unfold idxOf
  have : l.findIdx? (fun y => x == y) = some k := by
    rw [List.findIdx?_eq_some_iff_getElem]
    obtain ⟨hk, rfl⟩ := List.getElem?_eq_some_iff.1 hx
    exact ⟨hk, by simp [hp], fun j hj => by have := hno j _ hj (List.getElem?_eq_getElem (by omega)); simpa using this⟩
  rw [this]
theorem idxOf_miss {x : Int} {l : List Int} (hno : ∀ (j : Nat) (z : Int), l[j]? = some z → ¬ x = z) : idxOf x l = -1 := by
  unfold idxOf
  have : l.findIdx? (fun y => x == y) = none := by
    rw [List.findIdx?_eq_none_iff]
    intro y hy
    obtain ⟨k, hk, rfl⟩ := List.getElem_of_mem hy
    simpa using hno k _ (List.getElem?_eq_getElem hk)
  rw [this]
theorem idxOf_nonneg (x : Int) (l : List Int) : decide (0 ≤ idxOf x l) = l.any (fun y => x == y) := by
  unfold idxOf
  cases h : l.findIdx? (fun y => x == y) with
  | none =>
    rw [List.findIdx?_eq_none_iff] at h
    have : l.any (fun y => x == y) = false := by rw [List.any_eq_false]; intro y hy; rw [h y hy]; exact Bool.false_ne_true
    rw [this]; rfl
  | some k =>
    obtain ⟨hk, hp, _⟩ := List.findIdx?_eq_some_iff_getElem.1 h
    have : l.any (fun y => x == y) = true := List.any_eq_true.2 ⟨_, List.getElem_mem hk, hp⟩
    rw [this]; simp

set_option maxHeartbeats 1000000 in
theorem index43 (w : World) (A : Option Addr) (n c : Nat) (l : List Int) (x : Int) (h : NumsAt w w.heap.size A n c l) :
    Calls Try.prog 43 #[.slice A n c, .int .u64 x] w fun e w' => e = .returned (.int .i64 (idxOf x l)) ∧ w = w' := by
  have hm : n ≤ 9223372036854775807 := by have := h.cap; have := h.max; unfold maxLen at this; omega
  have H := hidI h
  clear h
  go_enter Try.func43, Try.ntmps43
  go_wp2_with fail
  go_loopw [8] (fun vi wr => ∃ k : Nat, k ≤ n ∧ vi = .int .i64 k ∧ Hid (w = wr) ∧ Hid (∀ (j : Nat) (z : Int), j < k → l[j]? = some z → ¬ x = z)) (fun vi _ => n - (intOf vi).toNat)
  case atStart => exact ⟨0, Nat.zero_le _, rfl, (rfl : w = w), fun j y hj => absurd hj (Nat.not_lt_zero _)⟩
  case round =>
    obtain ⟨k, hk, rfl, EW, AL⟩ := hrel
    have ew : w = wr := EW
    subst ew
    by_cases hlt : k < n
    · have hltz : (k : Int) < (n : Int) := by omega
      obtain ⟨b, off, y, rfl, hbB, hx, c0⟩ := H.out.at_ hlt
      have HX := hidI hx
      clear hx
      by_cases hq : x = y
      · have HQ := hidI hq
        go_wp2_with fail
        go_ret
        exact ⟨ret_i64 (by rw [← HQ.out]; exact (idxOf_hit HX.out HQ.out AL.out).symm), rfl⟩
      · have HQ := hidI hq
        go_wp2_with fail
        go_roundw
        case measure => simp [intOf] <;> omega
        case rel =>
          refine ⟨k + 1, by omega, by go_num, trivial, (show Hid _ from fun j z hj hz => ?_)⟩
          by_cases e : j = k
          · subst e
            have := HX.out
            rw [hz] at this; cases this
            exact HQ.out
          · exact AL.out j z (by omega) hz
    · have hltz : ¬ (k : Int) < (n : Int) := by omega
      go_wp2_with fail
      go_ret
      refine ⟨ret_i64 (idxOf_miss fun j y hy => AL.out j y ?_ hy).symm, rfl⟩
      have := (List.getElem?_eq_some_iff.1 hy).1
      have := H.out.len
      omega

set_option maxHeartbeats 400000 in
theorem contains38 (w : World) (A : Option Addr) (n c : Nat) (l : List Int) (x : Int) (h : NumsAt w w.heap.size A n c l) :
    Calls Try.prog 38 #[.slice A n c, .int .u64 x] w fun e w' => e = .returned (.bool (l.any (fun y => x == y))) ∧ w = w' := by
  have HC := hidI (index43 w A n c l x h)
  have HE := hidI (idxOf_nonneg x l)
  clear h
  generalize idxOf x l = r at *
  go_enter Try.func38, Try.ntmps38
  go_wp2_with fail
  refine HC.out.mono ?_
  rintro e w1 ⟨rfl, rfl⟩
  go_wp2_with fail
  go_ret
  exact ⟨ret_bool HE.out, rfl⟩

set_option maxHeartbeats 400000 in
theorem runs28 (w : World) (A : Option Addr) (n c : Nat) (ts : List Th) (x : Int) (h : ThingsAt w w.heap.size A n c ts) (hn : n ≤ 1000) :
    Calls Try.prog 28 #[.slice A n c, .int .u64 x] w fun e w' => e = .returned (.bool ((liveL ts).any (fun y => x == y))) ∧ Below w.heap.size w w' := by
  have HL := hidI (live24 w A n c ts h hn)
  clear h
  go_enter Try.func28, Try.ntmps28
  go_wp2_with fail
  refine HL.out.mono ?_
  rintro e w1 ⟨v, rfl, hv, hb⟩
  obtain ⟨A1, c1, rfl, hN⟩ := NumsAt.of_own hv
  have HC := hidI (contains38 w1 A1 _ c1 _ x hN)
  have HB := hidI hb
  clear hv hb hN HL
  generalize (liveL ts).length = m at *
  go_wp2_with fail
  refine HC.out.mono ?_
  rintro e w2 ⟨rfl, rfl⟩
  go_wp2_with fail
  go_ret
  exact ⟨rfl, HB.out⟩

def turnL (l : List Int) (n : Int) : Int := if l.length = 0 then 0 else l.getD (n % (l.length : Int)).toNat 0

theorem turn_at (l : List Int) (k : Int) (h : 0 < l.length) : ∃ q : Nat, q < l.length ∧ turnL l k = l.getD q 0 ∧
    ((0 ≤ k.tmod (l.length : Int) ∧ k.tmod (l.length : Int) = (q : Int)) ∨ (k.tmod (l.length : Int) < 0 ∧ k.tmod (l.length : Int) + (l.length : Int) = (q : Int))) := by
  have h1 := Int.emod_nonneg k (b := (l.length : Int)) (by omega)
  have h2 := Int.emod_lt_of_pos k (b := (l.length : Int)) (by omega)
  refine ⟨(k % (l.length : Int)).toNat, by omega, by unfold turnL; rw [if_neg (by omega)], ?_⟩
  have h3 := Int.tmod_lt_of_pos k (b := (l.length : Int)) (by omega)
  have h4 := Int.tmod_eq_emod (a := k) (b := (l.length : Int))
  split at h4
  · exact .inl ⟨by omega, by omega⟩
  · by_cases h5 : k % (l.length : Int) = 0
    · left
      have : k.tmod (l.length : Int) = 0 := by rw [← Int.dvd_iff_tmod_eq_zero]; exact Int.dvd_of_emod_eq_zero h5
      exact ⟨by omega, by omega⟩
    · right
      have h6 : ((l.length : Int).natAbs : Int) = (l.length : Int) := by simp
      exact ⟨by omega, by omega⟩

set_option maxHeartbeats 1000000 in
theorem turn23 (w : World) (A : Option Addr) (n c : Nat) (ts : List Th) (k : Int) (h : ThingsAt w w.heap.size A n c ts) (hn : n ≤ 1000) (hk : -9223372036854775808 ≤ k) (hk2 : k ≤ 9223372036854775807) :
    Calls Try.prog 23 #[.slice A n c, .int .i64 k] w fun e w' => e = .returned (.int .u64 (turnL (liveL ts) k)) ∧ Below w.heap.size w w' := by
  have HL := hidI (live24 w A n c ts h hn)
  have hlen : (liveL ts).length ≤ 1000 := by have := liveL_len ts n; rw [List.take_of_length_le (by rw [h.len]; exact Nat.le_refl _)] at this; omega
  clear h
  generalize liveL ts = l at *
  go_enter Try.func23, Try.ntmps23
  go_wp2_with fail
  refine HL.out.mono ?_
  rintro e w1 ⟨v, rfl, hv, hb⟩
  obtain ⟨A1, c1, rfl, hN⟩ := NumsAt.of_own hv
  have HB := hidI hb
  have HN := hidI hN
  clear hv hb hN HL
  rcases Nat.eq_zero_or_pos l.length with h0 | h0
  · have HT : Hid (turnL l k = 0) := by show turnL l k = 0; simp [turnL, h0]
    generalize l.length = m at *
    subst h0
    go_wp2_with fail
    go_ret
    exact ⟨ret_u64 HT.out.symm, HB.out⟩
  · obtain ⟨q, hq1, hq2, hq3⟩ := turn_at l k h0
    obtain ⟨b, off, x, rfl, hbB, hx, c0⟩ := HN.out.at_ hq1
    have HT : Hid (turnL l k = x) := by show turnL l k = x; rw [hq2, List.getD_eq_getElem?_getD, hx]; rfl
    clear hq2 hx
    generalize l.length = m at *
    rcases hq3 with ⟨g1, g2⟩ | ⟨g1, g2⟩
    · go_wp2_with fail
      go_ret
      exact ⟨ret_u64 HT.out.symm, HB.out⟩
    · go_wp2_with fail
      go_ret
      exact ⟨ret_u64 HT.out.symm, HB.out⟩

set_option maxHeartbeats 1000000 in
theorem turn29 (w : World) (A : Option Addr) (n c : Nat) (ts : List Th) (k : Int) (h : ThingsAt w w.heap.size A n c ts) (hn : n ≤ 1000) (hk : -9223372036854775808 ≤ k) (hk2 : k ≤ 9223372036854775807) :
    Calls Try.prog 29 #[.slice A n c, .int .i64 k] w fun e w' => e = .returned (.int .u64 (turnL (liveL ts) k)) ∧ Below w.heap.size w w' := by
  have HL := hidI (live26 w A n c ts h hn)
  have hlen : (liveL ts).length ≤ 1000 := by have := liveL_len ts n; rw [List.take_of_length_le (by rw [h.len]; exact Nat.le_refl _)] at this; omega
  clear h
  generalize liveL ts = l at *
  go_enter Try.func29, Try.ntmps29
  go_wp2_with fail
  refine HL.out.mono ?_
  rintro e w1 ⟨v, rfl, hv, hb⟩
  obtain ⟨A1, c1, rfl, hN⟩ := NumsAt.of_own hv
  have HB := hidI hb
  have HN := hidI hN
  clear hv hb hN HL
  rcases Nat.eq_zero_or_pos l.length with h0 | h0
  · have HT : Hid (turnL l k = 0) := by show turnL l k = 0; simp [turnL, h0]
    generalize l.length = m at *
    subst h0
    go_wp2_with fail
    go_ret
    exact ⟨ret_u64 HT.out.symm, HB.out⟩
  · obtain ⟨q, hq1, hq2, hq3⟩ := turn_at l k h0
    obtain ⟨b, off, x, rfl, hbB, hx, c0⟩ := HN.out.at_ hq1
    have HT : Hid (turnL l k = x) := by show turnL l k = x; rw [hq2, List.getD_eq_getElem?_getD, hx]; rfl
    clear hq2 hx
    generalize l.length = m at *
    rcases hq3 with ⟨g1, g2⟩ | ⟨g1, g2⟩
    · go_wp2_with fail
      go_ret
      exact ⟨ret_u64 HT.out.symm, HB.out⟩
    · go_wp2_with fail
      go_ret
      exact ⟨ret_u64 HT.out.symm, HB.out⟩

end Go.Proofs.Ytpobkbedablfeaa
