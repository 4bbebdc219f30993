/- The document's Map. -/
import Derived.Test.YtndohmimcbmhdaaMx0
set_option linter.unusedVariables false
set_option linter.unusedSimpArgs false
namespace Go.Proofs.Ytndohmimcbmhdaa
open Go.RowKit Go.Sort

def map74ok (i x y : Int) : Bool := decide (0 ≤ i ∧ i < 4) && slotOk x y
set_option maxHeartbeats 8000000 in
set_option maxRecDepth 100000 in
theorem map74 (w : World) (t : Th) (i x y : Int) :
    Calls Try.prog 74 #[.agg (thC t), .int .i64 i, .agg #[.int .u64 x, .int .u64 y]] w fun e w' => e = .returned (.tuple #[.agg (thC (if map74ok i x y then setSlot t i (x, y) else t)), .int .i64 (if map74ok i x y then 0 else 171)]) ∧ Below w.heap.size w w' := by
  obtain ⟨q0, q1, q2, q3⟩ := three_blk w (thC t) #[.int .u64 x, .int .u64 y] (thC zeroTh) 61 52 61
  have HB := hid q0
  have HP1 := hid q1
  have HP2 := hid q2
  have HP3 := hid q3
  have hsz : ((w.alloc (.cells (thC t) 61)).alloc (.cells #[.int .u64 x, .int .u64 y] 52)).heap.size = w.heap.size + 1 + 1 := by simp
  have hlw : w.heap.size ≤ (((w.alloc (.cells (thC t) 61)).alloc (.cells #[.int .u64 x, .int .u64 y] 52)).alloc (.cells (thC zeroTh) 61)).heap.size := q0.size
  clear q0 q1 q2 q3
  obtain ⟨m, hm⟩ : ∃ m, m = map74ok i x y := ⟨_, rfl⟩
  rw [← hm]
  have HMM := hid hm
  clear hm
  by_cases hi1 : i < 0
  · skip
    have HO : Hid (map74ok i x y = false) := (by show _ = _; unfold map74ok; rw [decide_eq_false (by omega)]; rfl)
    obtain rfl : m = false := HMM.out.trans HO.out
    obtain ⟨f1, f2⟩ := Blk.cells2 HP2.out
    go_enter Try.func74, Try.ntmps74
    go_wp2_with (first
      | (with_reducible refine wpList_alloc61 ?_; rw [hsz]; generalize ((w.alloc (.cells (thC t) 61)).alloc (.cells #[.int .u64 x, .int .u64 y] 52)).alloc (.cells (thC zeroTh) 61) = wa at *)
      | (go_at_call 119; refine (named119 _ _).mono ?_; rw [HN1.out]; rintro e w' ⟨rfl, rfl⟩)
      | (go_at_call 119; refine (named119 _ _).mono ?_; rw [HN2.out]; rintro e w' ⟨rfl, rfl⟩)
      | ((with_reducible refine wpList_load61 t w.heap.size ?_ HP1.out ?_); exact rfl)
      | ((with_reducible refine wpList_store61 t zeroTh (w.heap.size + 1 + 1) ?_ ?_ HP3.out ?_); exact rfl; exact rfl; intro w5 hb5 hk5))
    refine bodyPost_ret (th_run2 hk5 rfl _ rfl rfl) rfl ⟨rfl, hb5.done HB.out (fun k e => by omega) hlw⟩
  · by_cases hi3 : 3 < i
    · skip
      have HO : Hid (map74ok i x y = false) := (by show _ = _; unfold map74ok; rw [decide_eq_false (by omega)]; rfl)
      obtain rfl : m = false := HMM.out.trans HO.out
      obtain ⟨f1, f2⟩ := Blk.cells2 HP2.out
      go_enter Try.func74, Try.ntmps74
      go_wp2_with (first
        | (with_reducible refine wpList_alloc61 ?_; rw [hsz]; generalize ((w.alloc (.cells (thC t) 61)).alloc (.cells #[.int .u64 x, .int .u64 y] 52)).alloc (.cells (thC zeroTh) 61) = wa at *)
        | (go_at_call 119; refine (named119 _ _).mono ?_; rw [HN1.out]; rintro e w' ⟨rfl, rfl⟩)
        | (go_at_call 119; refine (named119 _ _).mono ?_; rw [HN2.out]; rintro e w' ⟨rfl, rfl⟩)
        | ((with_reducible refine wpList_load61 t w.heap.size ?_ HP1.out ?_); exact rfl)
        | ((with_reducible refine wpList_store61 t zeroTh (w.heap.size + 1 + 1) ?_ ?_ HP3.out ?_); exact rfl; exact rfl; intro w5 hb5 hk5))
      refine bodyPost_ret (th_run2 hk5 rfl _ rfl rfl) rfl ⟨rfl, hb5.done HB.out (fun k e => by omega) hlw⟩
    · have hi0 : 0 ≤ i := by omega
      have hi4 : i < 4 := by omega
      have hi2 : ¬ 4 ≤ i := by omega
      have HD : Hid (∀ b, slotOk x y = b → map74ok i x y = b) := fun b hb => by unfold map74ok; rw [decide_eq_true ⟨hi0, hi4⟩, hb]; rfl
      by_cases hx : x = 0
      · obtain rfl : 0 = x := hx.symm
        by_cases hy : y = 0
        · obtain rfl : 0 = y := hy.symm
          have HO : Hid (map74ok i 0 0 = true) := (HD.out _ rfl)
          obtain rfl : m = true := HMM.out.trans HO.out
          obtain ⟨f1, f2⟩ := Blk.cells2 HP2.out
          go_enter Try.func74, Try.ntmps74
          go_wp2_with (first
            | (with_reducible refine wpList_alloc61 ?_; rw [hsz]; generalize ((w.alloc (.cells (thC t) 61)).alloc (.cells #[.int .u64 0, .int .u64 0] 52)).alloc (.cells (thC zeroTh) 61) = wa at *)
            | (go_at_call 119; refine (named119 _ _).mono ?_; rw [HN1.out]; rintro e w' ⟨rfl, rfl⟩)
            | (go_at_call 119; refine (named119 _ _).mono ?_; rw [HN2.out]; rintro e w' ⟨rfl, rfl⟩)
            | (with_reducible refine wpList_put61 t (setSlot t i (0, 0)) w.heap.size (18 + i.toNat * 2) (.agg #[.int .u64 0, .int .u64 0]) [.int .u64 0, .int .u64 0] ?_ ?_ HP1.out ?_ ?_ ?_ ?_ ?_ ?_
               · exact rfl
               · exact rfl
               · exact rfl
               · exact size52
               · show 18 + i.toNat * 2 + 2 ≤ 26; omega
               · exact one_of rfl
               · exact setSlot_cells t hi0 hi4 (0, 0)
               intro w3 hb3 hk3
               have HK5 := hid hk3
               have HB3 := hid (hb3.done HB.out (fun k e => by omega) hlw)
               have HM3 := hid (hb3.blk HP3.out (fun e => by omega))
               clear hb3 hk3)
            | ((with_reducible refine wpList_load61 (setSlot t i (0, 0)) w.heap.size ?_ HK5.out ?_); exact rfl)
            | ((with_reducible refine wpList_store61 (setSlot t i (0, 0)) zeroTh (w.heap.size + 1 + 1) ?_ ?_ HM3.out ?_); exact rfl; exact rfl; intro w5 hb5 hk5))
          have hls := HB3.out.size
          refine bodyPost_ret (th_run2 hk5 rfl _ rfl rfl) rfl ⟨rfl, hb5.done HB3.out (fun k e => by omega) (by omega)⟩
        · have hy' : (y == 0) = false := by simpa using hy
          have HN1 : Hid (namedB 0 = false) := rfl
          have HD2 : Hid (slotOk 0 y = false) := by show _ = _; unfold slotOk; rw [decide_eq_false (fun h => hy h.2)]; rfl
          clear hy
          have HO : Hid (map74ok i 0 y = false) := (HD.out _ HD2.out)
          obtain rfl : m = false := HMM.out.trans HO.out
          obtain ⟨f1, f2⟩ := Blk.cells2 HP2.out
          go_enter Try.func74, Try.ntmps74
          go_wp2_with (first
            | (with_reducible refine wpList_alloc61 ?_; rw [hsz]; generalize ((w.alloc (.cells (thC t) 61)).alloc (.cells #[.int .u64 0, .int .u64 y] 52)).alloc (.cells (thC zeroTh) 61) = wa at *)
            | (go_at_call 119; refine (named119 _ _).mono ?_; rw [HN1.out]; rintro e w' ⟨rfl, rfl⟩)
            | (go_at_call 119; refine (named119 _ _).mono ?_; rw [HN2.out]; rintro e w' ⟨rfl, rfl⟩)
            | ((with_reducible refine wpList_load61 t w.heap.size ?_ HP1.out ?_); exact rfl)
            | ((with_reducible refine wpList_store61 t zeroTh (w.heap.size + 1 + 1) ?_ ?_ HP3.out ?_); exact rfl; exact rfl; intro w5 hb5 hk5))
          refine bodyPost_ret (th_run2 hk5 rfl _ rfl rfl) rfl ⟨rfl, hb5.done HB.out (fun k e => by omega) hlw⟩
      · have hx' : (x == 0) = false := by simpa using hx
        have HD3 : Hid (slotOk x y = (namedB x && namedB y)) := by show _ = _; unfold slotOk; rw [decide_eq_false (fun h => hx h.1)]; rfl
        clear hx
        cases hn1 : namedB x with
        | false =>
          have HN1 := hid hn1
          have HD2 : Hid (slotOk x y = false) := by show _ = _; rw [HD3.out, hn1]; rfl
          clear hn1
          have HO : Hid (map74ok i x y = false) := (HD.out _ HD2.out)
          obtain rfl : m = false := HMM.out.trans HO.out
          obtain ⟨f1, f2⟩ := Blk.cells2 HP2.out
          go_enter Try.func74, Try.ntmps74
          go_wp2_with (first
            | (with_reducible refine wpList_alloc61 ?_; rw [hsz]; generalize ((w.alloc (.cells (thC t) 61)).alloc (.cells #[.int .u64 x, .int .u64 y] 52)).alloc (.cells (thC zeroTh) 61) = wa at *)
            | (go_at_call 119; refine (named119 _ _).mono ?_; rw [HN1.out]; rintro e w' ⟨rfl, rfl⟩)
            | (go_at_call 119; refine (named119 _ _).mono ?_; rw [HN2.out]; rintro e w' ⟨rfl, rfl⟩)
            | ((with_reducible refine wpList_load61 t w.heap.size ?_ HP1.out ?_); exact rfl)
            | ((with_reducible refine wpList_store61 t zeroTh (w.heap.size + 1 + 1) ?_ ?_ HP3.out ?_); exact rfl; exact rfl; intro w5 hb5 hk5))
          refine bodyPost_ret (th_run2 hk5 rfl _ rfl rfl) rfl ⟨rfl, hb5.done HB.out (fun k e => by omega) hlw⟩
        | true =>
          have HN1 := hid hn1
          cases hn2 : namedB y with
          | false =>
            have HN2 := hid hn2
            have HD2 : Hid (slotOk x y = false) := by show _ = _; rw [HD3.out, hn1, hn2]; rfl
            clear hn1 hn2
            have HO : Hid (map74ok i x y = false) := (HD.out _ HD2.out)
            obtain rfl : m = false := HMM.out.trans HO.out
            obtain ⟨f1, f2⟩ := Blk.cells2 HP2.out
            go_enter Try.func74, Try.ntmps74
            go_wp2_with (first
              | (with_reducible refine wpList_alloc61 ?_; rw [hsz]; generalize ((w.alloc (.cells (thC t) 61)).alloc (.cells #[.int .u64 x, .int .u64 y] 52)).alloc (.cells (thC zeroTh) 61) = wa at *)
              | (go_at_call 119; refine (named119 _ _).mono ?_; rw [HN1.out]; rintro e w' ⟨rfl, rfl⟩)
              | (go_at_call 119; refine (named119 _ _).mono ?_; rw [HN2.out]; rintro e w' ⟨rfl, rfl⟩)
              | ((with_reducible refine wpList_load61 t w.heap.size ?_ HP1.out ?_); exact rfl)
              | ((with_reducible refine wpList_store61 t zeroTh (w.heap.size + 1 + 1) ?_ ?_ HP3.out ?_); exact rfl; exact rfl; intro w5 hb5 hk5))
            refine bodyPost_ret (th_run2 hk5 rfl _ rfl rfl) rfl ⟨rfl, hb5.done HB.out (fun k e => by omega) hlw⟩
          | true =>
            have HN2 := hid hn2
            have HD2 : Hid (slotOk x y = true) := by show _ = _; rw [HD3.out, hn1, hn2]; rfl
            clear hn1 hn2
            have HO : Hid (map74ok i x y = true) := (HD.out _ HD2.out)
            obtain rfl : m = true := HMM.out.trans HO.out
            obtain ⟨f1, f2⟩ := Blk.cells2 HP2.out
            go_enter Try.func74, Try.ntmps74
            go_wp2_with (first
              | (with_reducible refine wpList_alloc61 ?_; rw [hsz]; generalize ((w.alloc (.cells (thC t) 61)).alloc (.cells #[.int .u64 x, .int .u64 y] 52)).alloc (.cells (thC zeroTh) 61) = wa at *)
              | (go_at_call 119; refine (named119 _ _).mono ?_; rw [HN1.out]; rintro e w' ⟨rfl, rfl⟩)
              | (go_at_call 119; refine (named119 _ _).mono ?_; rw [HN2.out]; rintro e w' ⟨rfl, rfl⟩)
              | (with_reducible refine wpList_put61 t (setSlot t i (x, y)) w.heap.size (18 + i.toNat * 2) (.agg #[.int .u64 x, .int .u64 y]) [.int .u64 x, .int .u64 y] ?_ ?_ HP1.out ?_ ?_ ?_ ?_ ?_ ?_
                 · exact rfl
                 · exact rfl
                 · exact rfl
                 · exact size52
                 · show 18 + i.toNat * 2 + 2 ≤ 26; omega
                 · exact one_of rfl
                 · exact setSlot_cells t hi0 hi4 (x, y)
                 intro w3 hb3 hk3
                 have HK5 := hid hk3
                 have HB3 := hid (hb3.done HB.out (fun k e => by omega) hlw)
                 have HM3 := hid (hb3.blk HP3.out (fun e => by omega))
                 clear hb3 hk3)
              | ((with_reducible refine wpList_load61 (setSlot t i (x, y)) w.heap.size ?_ HK5.out ?_); exact rfl)
              | ((with_reducible refine wpList_store61 (setSlot t i (x, y)) zeroTh (w.heap.size + 1 + 1) ?_ ?_ HM3.out ?_); exact rfl; exact rfl; intro w5 hb5 hk5))
            have hls := HB3.out.size
            refine bodyPost_ret (th_run2 hk5 rfl _ rfl rfl) rfl ⟨rfl, hb5.done HB3.out (fun k e => by omega) (by omega)⟩
end Go.Proofs.Ytndohmimcbmhdaa

/- The document's Where. -/
set_option linter.unusedVariables false
set_option linter.unusedSimpArgs false
namespace Go.Proofs.Ytndohmimcbmhdaa
open Go.RowKit Go.Sort

theorem sp_run3 {w : World} {g : Nat} {a b v u : Value} (h : Blk w g 52 #[a, b]) {fn : Func} {p q r : Tmp} (hf : fn.results = #[.cell p 52, .tmp q, .tmp r]) (tmps : Array Value) (hp : tmps.getD p undef = .pointer (some ⟨g, 0, none⟩)) (hq : tmps.getD q undef = v) (hr : tmps.getD r undef = u) :
    (results fn tmps).run Try.prog w = .ok (.tuple #[.agg #[a, b], v, u]) w := by
  have hp' : tmps[p]?.getD undef = .pointer (some ⟨g, 0, none⟩) := by simpa using hp
  have hq' : tmps[q]?.getD undef = v := by simpa using hq
  have hr' : tmps[r]?.getD undef = u := by simpa using hr
  have hl := run_loadVar_row (P := Try.prog) w g 52 52 #[a, b] (0, 0) _ h Try.underlying52 rfl size52
  simp [results, hf, hp', hq', hr', asAddr, hl]
set_option maxHeartbeats 8000000 in
set_option maxRecDepth 100000 in
theorem where76 (w : World) (t : Th) (a : Int) : Calls Try.prog 76 #[.agg (thC t), .int .i64 a] w fun e w' => e = .returned (whereV t a) ∧ Below w.heap.size w w' := by
  have HB : Hid (Below w.heap.size w ((w.alloc (.cells (thC t) 61)).alloc (.cells #[.int .u64 0, .int .u64 0] 52))) := ((Below.refl _ w).alloc (Nat.le_refl _) _).alloc (by simp) _
  have HP : Hid (Blk ((w.alloc (.cells (thC t) 61)).alloc (.cells #[.int .u64 0, .int .u64 0] 52)) w.heap.size 61 (thC t)) := (Blk.new w 61 _).alloc _
  have HP2 : Hid (Blk ((w.alloc (.cells (thC t) 61)).alloc (.cells #[.int .u64 0, .int .u64 0] 52)) (w.heap.size + 1) 52 #[.int .u64 0, .int .u64 0]) := by
    have := Blk.new (w.alloc (.cells (thC t) 61)) 52 #[.int .u64 0, .int .u64 0]
    rwa [show (w.alloc (.cells (thC t) 61)).heap.size = w.heap.size + 1 by simp] at this
  go_enter Try.func76, Try.ntmps76
  go_wp2_with fail
  generalize (w.alloc (.cells (thC t) 61)).alloc (.cells #[.int .u64 0, .int .u64 0] 52) = wa at *
  go_loopw [7] (fun vi wr => ∃ k : Nat, k ≤ 4 ∧ vi = .int .i64 k ∧ Hid (Below wa.heap.size wa wr) ∧ Hid (∀ j : Nat, j < k → ¬ ((128 * j : Int) ≤ a ∧ a < 128 * j + 128 ∧ slotZ (slotAt t j) = false))) (fun vi _ => 4 - (intOf vi).toNat)
  case atStart => exact ⟨0, Nat.zero_le _, rfl, Below.refl _ _, fun j hj => absurd hj (by omega)⟩
  case round =>
    obtain ⟨k, hk, rfl, BW, NH⟩ := hrel
    have HK := hid (HP.out.below BW.out HP.out.lt)
    have HK2 := hid (HP2.out.below BW.out HP2.out.lt)
    have HBW := hid (HB.out.trans (BW.out.mono HB.out.size))
    have hlw : w.heap.size ≤ wr.heap.size := HBW.out.size
    have hit : ∀ j : Int, 0 ≤ j → j < 4 → 128 * j ≤ a → a < 128 * j + 128 → slotZ (slotAt t j) = false → whereV t a = .tuple #[slotVal (slotAt t j), .int .i64 (a - 128 * j), .int .i64 0] := fun j h0 h1 h2 h3 h4 => by
      have e : a / 128 = j := by omega
      have e2 : a % 128 = a - 128 * j := by omega
      unfold whereV hitB
      rw [e, h4, decide_eq_true ⟨by omega, by omega⟩, e2]
      rfl
    have HIT := hid hit
    clear hit
    by_cases hlt : k < 4
    · have hltz : (k : Int) < 4 := by omega
      have hk0 : (0 : Int) ≤ (k : Int) := by omega
      have hk4 : ¬ (4 : Int) ≤ (k : Int) := by omega
      have hkn : ¬ (k : Int) < 0 := by omega
      obtain ⟨f1, f2⟩ := Blk.slot HK.out hk0 hltz
      have HITk := hid (HIT.out k hk0 hltz)
      have hw1 : IntKind.i64.wrap (128 * (k : Int)) = 128 * (k : Int) := IntWalk.i64_in _ (by omega)
      have hw2 : IntKind.i64.wrap (128 * (k : Int) + 128) = 128 * (k : Int) + 128 := IntWalk.i64_in _ (by omega)
      have NHk := hid (fun (hz : ¬ ((128 * k : Int) ≤ a ∧ a < 128 * k + 128 ∧ slotZ (slotAt t k) = false)) => (show ∀ j : Nat, j < k + 1 → ¬ ((128 * j : Int) ≤ a ∧ a < 128 * j + 128 ∧ slotZ (slotAt t j) = false) from fun j hj => by
        by_cases e : j = k
        · subst e; exact hz
        · exact NH.out j (by omega)))
      clear HIT NH
      generalize hq : slotAt t (k : Int) = s at *
      clear hq
      obtain ⟨x, y⟩ := s
      dsimp only at f1 f2
      rw [Int.toNat_natCast] at f1 f2
      by_cases h1 : 128 * (k : Int) ≤ a
      · by_cases h2 : a < 128 * (k : Int) + 128
        · have HV := hid (fun hz => HITk.out h1 h2 hz)
          by_cases hx : x = 0
          · obtain rfl : 0 = x := hx.symm
            by_cases hy : y = 0
            · obtain rfl : 0 = y := hy.symm
              have HN := hid (NHk.out (fun h => by have := h.2.2; revert this; decide))
              go_wp2_with fail
              go_roundw
              case measure => simp [intOf] <;> omega
              case rel => exact ⟨k + 1, by omega, by go_num, BW.out, HN.out⟩
            · have hy' : (y == 0) = false := by simpa using hy
              have HZ : Hid (slotZ (0, y) = false) := by show (_ && _) = _; simp [hy]
              clear hy
              go_wp2_with (first
                | ((with_reducible refine wpList_part (ty := 52) (g := w.heap.size + 1) (off := 0) (t := 52) (cur := [.int .u64 0, .int .u64 0]) (v := .agg #[.int .u64 0, .int .u64 y]) [.int .u64 0, .int .u64 y] ?_ ?_ HK2.out ?_ ?_ ?_ ?_ ?_)
                   · exact rfl
                   · exact rfl
                   · exact rfl
                   · exact size52
                   · exact Nat.le_of_ble_eq_true rfl
                   · exact one_of rfl
                   intro w5 hb5 hk5))
              refine bodyPost_ret (sp_run3 hk5 rfl _ rfl rfl rfl) rfl ⟨by rw [HV.out HZ.out]; rfl, hb5.done HBW.out (fun k e => by omega) hlw⟩
          · have hx' : (x == 0) = false := by simpa using hx
            have HZ : Hid (slotZ (x, y) = false) := by show (_ && _) = _; simp [hx]
            clear hx
            go_wp2_with (first
              | ((with_reducible refine wpList_part (ty := 52) (g := w.heap.size + 1) (off := 0) (t := 52) (cur := [.int .u64 0, .int .u64 0]) (v := .agg #[.int .u64 x, .int .u64 y]) [.int .u64 x, .int .u64 y] ?_ ?_ HK2.out ?_ ?_ ?_ ?_ ?_)
                 · exact rfl
                 · exact rfl
                 · exact rfl
                 · exact size52
                 · exact Nat.le_of_ble_eq_true rfl
                 · exact one_of rfl
                 intro w5 hb5 hk5))
            refine bodyPost_ret (sp_run3 hk5 rfl _ rfl rfl rfl) rfl ⟨by rw [HV.out HZ.out]; rfl, hb5.done HBW.out (fun k e => by omega) hlw⟩
        · have HN := hid (NHk.out (fun h => h2 h.2.1))
          go_wp2_with fail
          go_roundw
          case measure => simp [intOf] <;> omega
          case rel => exact ⟨k + 1, by omega, by go_num, BW.out, HN.out⟩
      · have HN := hid (NHk.out (fun h => h1 h.1))
        go_wp2_with fail
        go_roundw
        case measure => simp [intOf] <;> omega
        case rel => exact ⟨k + 1, by omega, by go_num, BW.out, HN.out⟩
    · have hltz : ¬ (k : Int) < 4 := by omega
      have HE : Hid (whereV t a = .tuple #[.agg #[.int .u64 0, .int .u64 0], .int .i64 0, .int .i64 172]) := by
        show _ = _
        unfold whereV
        rw [if_neg]
        unfold hitB
        intro h
        rw [Bool.and_eq_true, decide_eq_true_eq, Bool.not_eq_true'] at h
        obtain ⟨⟨h0, h1⟩, h2⟩ := h
        have := NH.out (a / 128).toNat (by omega)
        have e : (((a / 128).toNat : Nat) : Int) = a / 128 := by omega
        rw [e] at this
        exact this ⟨by omega, by omega, h2⟩
      go_wp2_with (first
        | ((with_reducible refine wpList_part (ty := 52) (g := w.heap.size + 1) (off := 0) (t := 52) (cur := [.int .u64 0, .int .u64 0]) (v := .agg #[.int .u64 0, .int .u64 0]) [.int .u64 0, .int .u64 0] ?_ ?_ HK2.out ?_ ?_ ?_ ?_ ?_)
           · exact rfl
           · exact rfl
           · exact rfl
           · exact size52
           · exact Nat.le_of_ble_eq_true rfl
           · exact one_of rfl
           intro w5 hb5 hk5))
      refine bodyPost_ret (sp_run3 hk5 rfl _ rfl rfl rfl) rfl ⟨by rw [HE.out]; rfl, hb5.done HBW.out (fun k e => by omega) hlw⟩
end Go.Proofs.Ytndohmimcbmhdaa

/- A space that can be: what is mapped into it. -/
set_option linter.unusedVariables false
set_option linter.unusedSimpArgs false
namespace Go.Proofs.Ytndohmimcbmhdaa
open Go.RowKit Go.Sort

/-- Nothing but a name, a kind, a label, a quota and slots. -/
structure Bare5 (t : Th) (p : Tl) : Prop where
  d2 : t.d2 = 0
  next : t.next = 0
  r0 : t.r0 = 0
  r1 : t.r1 = 0
  r2 : t.r2 = 0
  r3 : t.r3 = 0
  minted : t.minted = 0
  boot : t.boot = 0
  halt : t.halt = false
  value : t.value = 0
  l2 : p.l2 = []
  links : p.links = []
  data : p.data = []
theorem bare5_of {t : Th} {p : Tl} (h : sameT (strip5 t) p (bare0 t) (bl0 p) = true) : Bare5 t p := by
  unfold sameT at h
  simp only [Bool.and_eq_true] at h
  obtain ⟨hn, _, he, hl, hd⟩ := h
  unfold exactB at he
  unfold eqB at hl
  have he := of_decide_eq_true he
  have hl := of_decide_eq_true hl
  have hd := of_decide_eq_true hd
  simp only [numsB, strip5, bare0, zeroTh, Bool.and_eq_true, beq_iff_eq] at hn
  obtain ⟨_, _, _, n1, n2, n3, ⟨n4, n5, n6, n7⟩, n8, n9, _⟩ := hn
  exact ⟨he.1, n1, n4, n5, n6, n7, n2, n3, n8, n9, he.2, hl, hd⟩
theorem bare5_to {t : Th} {p : Tl} (h : Bare5 t p) : sameT (strip5 t) p (bare0 t) (bl0 p) = true := by
  obtain ⟨h1, h2, h3, h4, h5, h6, h7, h8, h9, h10, h11, h12, h13⟩ := h
  simp [sameT, numsB, exactB, eqB, strip5, bare0, bl0, zeroTh, *]
theorem bare5_to' {t : Th} {p : Tl} (h : Bare5 t p) : sameT (bare5 t) (bl0 p) t p = true := by
  obtain ⟨h1, h2, h3, h4, h5, h6, h7, h8, h9, h10, h11, h12, h13⟩ := h
  simp [sameT, numsB, exactB, eqB, bare5, bare0, bl0, zeroTh, *]
theorem Bare5.set {t : Th} {p : Tl} (h : Bare5 t p) (i : Int) (s : Int × Int) : Bare5 (setSlot t i s) p := by
  obtain ⟨h1, h2, h3, h4, h5, h6, h7, h8, h9, h10, h11, h12, h13⟩ := h
  unfold setSlot; split <;> (try split) <;> (try split) <;> (constructor <;> assumption)
theorem setSlot_front (t : Th) (i : Int) (s : Int × Int) : (setSlot t i s).id = t.id ∧ (setSlot t i s).d1 = t.d1 ∧ (setSlot t i s).quota = t.quota := by
  unfold setSlot; split <;> (try split) <;> (try split) <;> exact ⟨rfl, rfl, rfl⟩
theorem odd_set {t : Th} (h : (slotsL t).any oddSlot = false) {i : Int} (h0 : 0 ≤ i) (hi : i < 4) (s : Int × Int) : (slotsL (setSlot t i s)).any oddSlot = oddSlot s := by
  simp only [slotsL, List.any_cons, List.any_nil, Bool.or_eq_false_iff] at h
  obtain ⟨a, b, c, d, _⟩ := h
  have : i = 0 ∨ i = 1 ∨ i = 2 ∨ i = 3 := by omega
  obtain ⟨x, y⟩ := s
  rcases this with rfl | rfl | rfl | rfl
  · show ([(x, y), (t.s2, t.s3), (t.s4, t.s5), (t.s6, t.s7)] : List (Int × Int)).any oddSlot = _
    simp [b, c, d]
  · show ([(t.s0, t.s1), (x, y), (t.s4, t.s5), (t.s6, t.s7)] : List (Int × Int)).any oddSlot = _
    simp [a, c, d]
  · show ([(t.s0, t.s1), (t.s2, t.s3), (x, y), (t.s6, t.s7)] : List (Int × Int)).any oddSlot = _
    simp [a, b, d]
  · show ([(t.s0, t.s1), (t.s2, t.s3), (t.s4, t.s5), (x, y)] : List (Int × Int)).any oddSlot = _
    simp [a, b, c]
structure Right5 (t : Th) (p : Tl) : Prop where
  named : namedB t.id = true
  right : rightB t.d1 p.l1 = true
  pure_ : pureB t.d1 p.l1 = true
  clean : pureD t.d1 p.l1 = true
  slots : (slotsL t).any oddSlot = false
  quota : (t.quota == 1) = true
  bare : Bare5 t p
theorem right5_of {t : Th} {p : Tl} (h : rref_5 t p = true) : Right5 t p := by
  unfold rref_5 front71 at h
  simp only [Bool.and_eq_true, Bool.not_eq_true'] at h
  obtain ⟨⟨⟨h1, h2⟩, h3⟩, h4, h5, h6⟩ := h
  refine ⟨h1, h2, ?_, h3, h4, h5, bare5_of h6⟩
  unfold pureD at h3
  rw [Bool.and_eq_true] at h3
  unfold pureB
  rw [h2, h3.2]
  rfl
theorem Right5.to {t : Th} {p : Tl} (h : Right5 t p) : rref_5 t p = true := by
  unfold rref_5 front71
  rw [h.named, h.right, h.clean, h.slots, h.quota, bare5_to h.bare]
  rfl
theorem Right5.right5 {t : Th} {p : Tl} (h : Right5 t p) {i : Int} (h0 : 0 ≤ i) (hi : i < 4) (s : Int × Int) : right_5 (setSlot t i s) p = slotOk s.1 s.2 := by
  obtain ⟨e1, e2, e3⟩ := setSlot_front t i s
  unfold right_5
  rw [e1, e2, e3, odd_set h.slots h0 hi, h.named, h.right, h.pure_, h.quota, bare5_to' (h.bare.set i s)]
  unfold oddSlot
  cases slotOk s.1 s.2 <;> rfl
theorem Right5.ok {t : Th} {p : Tl} (h : Right5 t p) (i x y : Int) : mapOk t p i (x, y) = map74ok i x y := by
  unfold mapOk map74ok
  by_cases hi : 0 ≤ i ∧ i < 4
  · rw [h.right5 hi.1 hi.2]
  · rw [decide_eq_false hi]; rfl
theorem Right5.set {t : Th} {p : Tl} (h : Right5 t p) {i x y : Int} (hm : map74ok i x y = true) : Right5 (setSlot t i (x, y)) p := by
  unfold map74ok at hm
  rw [Bool.and_eq_true, decide_eq_true_eq] at hm
  obtain ⟨e1, e2, e3⟩ := setSlot_front t i (x, y)
  refine ⟨by rw [e1]; exact h.named, by rw [e2]; exact h.right, by rw [e2]; exact h.pure_, by rw [e2]; exact h.clean, ?_, by rw [e3]; exact h.quota, h.bare.set i _⟩
  rw [odd_set h.slots hm.1.1 hm.1.2]
  unfold oddSlot
  rw [hm.2]; rfl
theorem rref5_slices (t : Th) (p : Tl) (a b c d : Sl) : rref_5 (t.slices a b c d) p = rref_5 t p := rfl
theorem mapOk_slices (t : Th) (p : Tl) (a b c d : Sl) (i : Int) (s : Int × Int) : mapOk (t.slices a b c d) p i s = mapOk t p i s := by unfold mapOk; rw [setSlot_slices]; rfl
/-- Where answers four numbers. -/
theorem whereV_parts (t : Th) (a : Int) : ∃ u v n g : Int, whereV t a = .tuple #[.agg #[.int .u64 u, .int .u64 v], .int .i64 n, .int .i64 g] := by
  unfold whereV
  split
  · exact ⟨_, _, _, _, rfl⟩
  · exact ⟨_, _, _, _, rfl⟩
/-- What mapping leaves. -/
def mapT (m : Bool) (t : Th) (i x y : Int) : Th := bif m then setSlot t i (x, y) else t
def mapN (m : Bool) : Int := bif m then 0 else 171
theorem mapped73 (w : World) (t : Th) (p : Tl) (a b c d : Sl) (i x y : Int) (h : ThAt w (t.slices a b c d) p) (hr : ThR t) (hk : t.kind = 5) (hx : u64R x) (hy : u64R y) (z1 : a.n ≤ 8796093022208) (z2 : b.n ≤ 8796093022208) (z3 : c.n ≤ 8796093022208) (z4 : d.n ≤ 140737488355328) (h5 : Right5 t p) :
    Calls Try.prog 73 #[.agg (thC (t.slices a b c d)), .int .i64 i, .agg #[.int .u64 x, .int .u64 y]] w fun e w' => ∃ a' b' c' d' : Sl, e = .returned (.tuple #[.agg (thC ((mapT (map74ok i x y) t i x y).slices a' b' c' d')), .int .i64 (mapN (map74ok i x y))]) ∧ ThAt w' ((mapT (map74ok i x y) t i x y).slices a' b' c' d') p ∧ Below w.heap.size w w' := by
  refine (map73 w (t.slices a b c d) p i x y h (slices_R hr a b c d) hk hx hy z1 z2 z3 z4).mono ?_
  rw [mapOk_slices, h5.ok, setSlot_slices]
  unfold mapT mapN
  rintro e w' ⟨a', b', c', d', he, ht, hb⟩
  refine ⟨a', b', c', d', ?_, ?_, hb⟩
  · rw [he]; cases map74ok i x y <;> rfl
  · revert ht; cases map74ok i x y <;> exact fun h => h
theorem mapped74 (w : World) (t : Th) (i x y : Int) :
    Calls Try.prog 74 #[.agg (thC t), .int .i64 i, .agg #[.int .u64 x, .int .u64 y]] w fun e w' => e = .returned (.tuple #[.agg (thC (mapT (map74ok i x y) t i x y)), .int .i64 (mapN (map74ok i x y))]) ∧ Below w.heap.size w w' := by
  refine (map74 w t i x y).mono ?_
  unfold mapT mapN
  cases map74ok i x y <;> exact fun _ _ h => h
theorem mapT_right {t : Th} {p : Tl} (h : Right5 t p) (i x y : Int) : Right5 (mapT (map74ok i x y) t i x y) p := by
  unfold mapT
  cases hm : map74ok i x y with
  | false => exact h
  | true => exact h.set hm
theorem mapT_R {t : Th} (h : ThR t) (m : Bool) (i : Int) {x y : Int} (hx : u64R x) (hy : u64R y) : ThR (mapT m t i x y) := by
  unfold mapT
  cases m with
  | false => exact h
  | true => exact setSlot_R h i hx hy
theorem mapT_kind {t : Th} (h : t.kind = 5) (m : Bool) (i x y : Int) : (mapT m t i x y).kind = 5 := by
  unfold mapT
  cases m with
  | false => exact h
  | true => exact (setSlot_kind _ _ _).trans h
theorem mapT_at {w : World} {t : Th} {p : Tl} (h : ThAt w t p) (m : Bool) (i x y : Int) : ThAt w (mapT m t i x y) p := by
  unfold mapT
  cases m with
  | false => exact h
  | true => exact setSlot_at h i (x, y)
end Go.Proofs.Ytndohmimcbmhdaa
