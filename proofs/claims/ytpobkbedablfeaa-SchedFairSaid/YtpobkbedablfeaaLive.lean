/- sched.Live and the document's Live. -/
import Derived.Test.YtpobkbedablfeaaTh
namespace Go.Proofs.Ytpobkbedablfeaa
open Go.RowKit

/-- What a box of a thing reads as. -/
theorem box_facts (w : World) (t : Th) : ((w.alloc (.cells (thC t) 59)).cell? ⟨w.heap.size, 0, none⟩ = some (.int .u64 t.id) ∧ (w.alloc (.cells (thC t) 59)).cell? ⟨w.heap.size, 1, none⟩ = some (.int .i64 t.kind)) ∧
    (w.alloc (.cells (thC t) 59)).cell? ⟨w.heap.size, 16, none⟩ = some (.bool t.halt) :=
  ⟨⟨(Blk.cell (Blk.new w 59 (thC t)) 0).trans rfl, (Blk.cell (Blk.new w 59 (thC t)) 1).trans rfl⟩, (Blk.cell (Blk.new w 59 (thC t)) 16).trans rfl⟩

set_option maxHeartbeats 1000000 in
theorem live24 (w : World) (A : Option Addr) (n c : Nat) (ts : List Th) (h : ThingsAt w w.heap.size A n c ts) (hn : n ≤ 1000) :
    Calls Try.prog 24 #[.slice A n c] w fun e w' => ∃ v, e = .returned v ∧ OwnNums w' w.heap.size v (liveL ts) ∧ Below w.heap.size w w' := by
  obtain ⟨i0, hi0, hz0, hz1, hz2⟩ := info_parts u64_info
  have hm : n ≤ 9223372036854775807 := by omega
  have H := hidI h
  clear h
  go_enter Try.func24, Try.ntmps24
  go_wp2_with fail
  go_loopw [3, 8] (fun vo vi wr => ∃ (k : Nat), k ≤ n ∧ vi = .int .i64 k ∧ Hid (Below w.heap.size w wr) ∧ Hid (OwnNums wr w.heap.size vo (liveL (ts.take k)))) (fun _ vi _ => n - (intOf vi).toNat)
  case atStart => exact ⟨0, Nat.zero_le _, rfl, Below.refl _ w, World.ownsRow_nil _ _ _ _⟩
  case round =>
    obtain ⟨k, hk, rfl, BW, OW⟩ := hrel
    by_cases hlt : k < n
    · have hltz : (k : Int) < (n : Int) := by omega
      obtain ⟨b, off, t, rfl, hbB, hx, hc0⟩ := (H.out.below BW.out).at_ hlt
      have hc := hidI hc0
      have HS := hidI (liveL_snoc ts k t hx)
      have HL := hidI (liveL_len ts k)
      have SZ := BW.out.size
      obtain ⟨⟨F0, F1⟩, F2⟩ := box_facts wr t
      clear hx hc0
      by_cases hk2 : t.kind = 2
      · cases hh : t.halt with
        | true =>
          rw [hh] at F2
          have HA : Hid (alive t = false) := by show alive t = false; simp [alive, hh]
          clear hh
          go_wp2_with (refine wpList_take t b (off + k * 26) ?_ ?_ ?_ ?_ ?_; rfl; exact hc.out; rfl; rfl)
          go_roundw
          case measure => simp [intOf] <;> omega
          case rel => exact ⟨k + 1, by omega, by go_num, BW.out.alloc SZ _, by rw [HS.out, HA.out]; simp only [Bool.false_eq_true, if_false, List.append_nil]; exact World.ownsRow.alloc OW.out _⟩
        | false =>
          rw [hh] at F2
          have HA : Hid (alive t = true) := by show alive t = true; simp [alive, hk2, hh]
          clear hh
          go_wp2_with (first | (refine wpList_take t b (off + k * 26) ?_ ?_ ?_ ?_ ?_; rfl; exact hc.out; rfl; rfl) | (at_builtin; refine wpList_append_any _ rfl (.tmp 20) (.tmp 23) _ rfl w.heap.size 22 i0 _ 1 8 Try.underlying30 hi0 hz0 hz1 hz2 rfl (by omega) _ _ _ rfl (World.ownsRow.alloc (World.ownsRow.alloc OW.out _) _) (wr.heap.size + 2) (some ⟨wr.heap.size + 1, 0, none⟩) 1 1 [.int .u64 t.id] rfl ⟨rfl, fun _ => ⟨_, rfl, by simp, one_new wr _ _⟩⟩ (by simp [Value.oneCell']) (by simp only [maxLen]; have := HL.out; omega) (by have := HL.out; omega) (by simp; omega) ?_; intro v1 w1 hown1 hg1 hat1; have HO1 := hidI hown1; have hb1 : Below w.heap.size w w1 := ((BW.out.alloc SZ _).alloc (by simp; omega) _).grown hg1 (by simp; omega) (fun g hg => (World.ownsRow.lt OW.out g hg).1); have HB1 := hidI hb1; clear hown1 hg1 hat1 hb1))
          go_roundw
          case measure => simp [intOf] <;> omega
          case rel =>
            refine ⟨k + 1, by omega, by go_num, HB1.out, ?_⟩
            show OwnNums _ _ _ _
            rw [HS.out, HA.out]
            simp only [if_true]
            unfold OwnNums
            rw [List.length_append, nums_append]
            exact HO1.out
      · have HA : Hid (alive t = false) := by show alive t = false; simp [alive, hk2]
        go_wp2_with (refine wpList_take t b (off + k * 26) ?_ ?_ ?_ ?_ ?_; rfl; exact hc.out; rfl; rfl)
        go_roundw
        case measure => simp [intOf] <;> omega
        case rel => exact ⟨k + 1, by omega, by go_num, BW.out.alloc SZ _, by rw [HS.out, HA.out]; simp only [Bool.false_eq_true, if_false, List.append_nil]; exact World.ownsRow.alloc OW.out _⟩
    · have hltz : ¬ (k : Int) < (n : Int) := by omega
      have hkn : k = n := by omega
      have HT : Hid (ts.take k = ts) := by show ts.take k = ts; rw [List.take_of_length_le]; have := H.out.len; omega
      go_wp2_with fail
      go_ret
      exact ⟨_, rfl, by rw [← HT.out]; exact OW.out, BW.out⟩

set_option maxHeartbeats 1000000 in
theorem live26 (w : World) (A : Option Addr) (n c : Nat) (ts : List Th) (h : ThingsAt w w.heap.size A n c ts) (hn : n ≤ 1000) :
    Calls Try.prog 26 #[.slice A n c] w fun e w' => ∃ v, e = .returned v ∧ OwnNums w' w.heap.size v (liveL ts) ∧ Below w.heap.size w w' := by
  obtain ⟨i0, hi0, hz0, hz1, hz2⟩ := info_parts u64_info
  have hm : n ≤ 9223372036854775807 := by omega
  have H := hidI h
  clear h
  go_enter Try.func26, Try.ntmps26
  go_wp2_with fail
  go_loopw [3, 9] (fun vo vi wr => ∃ (k : Nat), k ≤ n ∧ vi = .int .i64 k ∧ Hid (Below w.heap.size w wr) ∧ Hid (OwnNums wr w.heap.size vo (liveL (ts.take k)))) (fun _ vi _ => n - (intOf vi).toNat)
  case atStart => exact ⟨0, Nat.zero_le _, rfl, (Below.refl _ w).alloc (Nat.le_refl _) _, World.ownsRow_made w #[] 0 (Nat.le_refl _) (by simp [maxLen]) rfl⟩
  case round =>
    obtain ⟨k, hk, rfl, BW, OW⟩ := hrel
    by_cases hlt : k < n
    · have hltz : (k : Int) < (n : Int) := by omega
      obtain ⟨b, off, t, rfl, hbB, hx, hc0⟩ := (H.out.below BW.out).at_ hlt
      have hc := hidI hc0
      have HS := hidI (liveL_snoc ts k t hx)
      have HL := hidI (liveL_len ts k)
      have SZ := BW.out.size
      obtain ⟨⟨F0, F1⟩, F2⟩ := box_facts wr t
      clear hx hc0
      by_cases hk2 : t.kind = 2
      · cases hh : t.halt with
        | true =>
          rw [hh] at F2
          have HA : Hid (alive t = false) := by show alive t = false; simp [alive, hh]
          clear hh
          go_wp2_with (refine wpList_take t b (off + k * 26) ?_ ?_ ?_ ?_ ?_; rfl; exact hc.out; rfl; rfl)
          go_roundw
          case measure => simp [intOf] <;> omega
          case rel => exact ⟨k + 1, by omega, by go_num, BW.out.alloc SZ _, by rw [HS.out, HA.out]; simp only [Bool.false_eq_true, if_false, List.append_nil]; exact World.ownsRow.alloc OW.out _⟩
        | false =>
          rw [hh] at F2
          have HA : Hid (alive t = true) := by show alive t = true; simp [alive, hk2, hh]
          clear hh
          go_wp2_with (first | (refine wpList_take t b (off + k * 26) ?_ ?_ ?_ ?_ ?_; rfl; exact hc.out; rfl; rfl) | (at_builtin; refine wpList_append_any _ rfl (.tmp 21) (.tmp 24) _ rfl w.heap.size 22 i0 _ 1 8 Try.underlying30 hi0 hz0 hz1 hz2 rfl (by omega) _ _ _ rfl (World.ownsRow.alloc (World.ownsRow.alloc OW.out _) _) (wr.heap.size + 2) (some ⟨wr.heap.size + 1, 0, none⟩) 1 1 [.int .u64 t.id] rfl ⟨rfl, fun _ => ⟨_, rfl, by simp, one_new wr _ _⟩⟩ (by simp [Value.oneCell']) (by simp only [maxLen]; have := HL.out; omega) (by have := HL.out; omega) (by simp; omega) ?_; intro v1 w1 hown1 hg1 hat1; have HO1 := hidI hown1; have hb1 : Below w.heap.size w w1 := ((BW.out.alloc SZ _).alloc (by simp; omega) _).grown hg1 (by simp; omega) (fun g hg => (World.ownsRow.lt OW.out g hg).1); have HB1 := hidI hb1; clear hown1 hg1 hat1 hb1))
          go_roundw
          case measure => simp [intOf] <;> omega
          case rel =>
            refine ⟨k + 1, by omega, by go_num, HB1.out, ?_⟩
            show OwnNums _ _ _ _
            rw [HS.out, HA.out]
            simp only [if_true]
            unfold OwnNums
            rw [List.length_append, nums_append]
            exact HO1.out
      · have HA : Hid (alive t = false) := by show alive t = false; simp [alive, hk2]
        go_wp2_with (refine wpList_take t b (off + k * 26) ?_ ?_ ?_ ?_ ?_; rfl; exact hc.out; rfl; rfl)
        go_roundw
        case measure => simp [intOf] <;> omega
        case rel => exact ⟨k + 1, by omega, by go_num, BW.out.alloc SZ _, by rw [HS.out, HA.out]; simp only [Bool.false_eq_true, if_false, List.append_nil]; exact World.ownsRow.alloc OW.out _⟩
    · have hltz : ¬ (k : Int) < (n : Int) := by omega
      have hkn : k = n := by omega
      have HT : Hid (ts.take k = ts) := by show ts.take k = ts; rw [List.take_of_length_le]; have := H.out.len; omega
      go_wp2_with fail
      go_ret
      exact ⟨_, rfl, by rw [← HT.out]; exact OW.out, BW.out⟩

end Go.Proofs.Ytpobkbedablfeaa
