import Derived.Test.YtndohmimcbmhdaaX7
import Derived.Test.YtndohmimcbmhdaaIns
set_option linter.unusedVariables false
set_option linter.unusedSimpArgs false
namespace Go.Proofs.Ytndohmimcbmhdaa
open Go.RowKit Go.Sort

def St1 (w : World) (g : Nat) (cs : List (Int × Int)) (tl : List Value) (bs a : Nat) (wr : World) : Prop :=
  ∃ P R, Row wr g (P ++ R) tl ∧ w.grownBy wr (some g) ∧ P.length = a ∧ WBlocks bs P ∧ Stably (P ++ R) cs
def St2 (w : World) (g : Nat) (cs : List (Int × Int)) (tl : List Value) (bs a : Nat) (wr : World) : Prop :=
  ∃ P R, Row wr g (P ++ R) tl ∧ w.grownBy wr (some g) ∧ P.length = a ∧ WBlocks (2 * bs) P ∧ Blocks bs R ∧ Stably (P ++ R) cs
def St3 (w : World) (g : Nat) (cs : List (Int × Int)) (tl : List Value) (bs : Nat) (wr : World) : Prop :=
  ∃ L, Row wr g L tl ∧ w.grownBy wr (some g) ∧ Blocks bs L ∧ Stably L cs

set_option maxRecDepth 100000 in
set_option maxHeartbeats 4000000 in
theorem stable148 (w : World) (g len cap : Nat) (cs : List (Int × Int)) (tl : List Value) (hr : Row w g cs tl) (hlen : cs.length = len) (hc : len ≤ cap) (hm : len ≤ 2305843009213693951) :
    Calls Try.prog 148 #[.slice (some ⟨g, 0, none⟩) len cap, .int .i64 len, .func (.func 94) #[] #[]] w fun e w' =>
      e = .returned (.tuple #[]) ∧ ∃ C, Row w' g C tl ∧ w.grownBy w' (some g) ∧ SortedC C ∧ Stably C cs := by
  have HL := hid hlen
  have HS : Hid (St1 w g cs tl 20 0 w) := ⟨[], cs, by simpa using hr, only_refl _ _, rfl, wblocks_nil 20, Stably.refl _⟩
  clear hr hlen
  go_enter Try.func148, Try.ntmps148
  go_wp2_with fail
  go_loopw [7, 8] (fun va vb wr => ∃ a b : Nat, va = .int .i64 a ∧ vb = .int .i64 b ∧ a + 20 ≤ b ∧ b ≤ a + 20 ∧ a ≤ len ∧ Hid (St1 w g cs tl 20 a wr)) (fun va _ _ => len - (intOf va).toNat)
  case atStart => exact ⟨0, 20, rfl, rfl, by omega, by omega, by omega, HS⟩
  case round =>
    obtain ⟨a, b, rfl, rfl, hab1, hab2, hal, H1⟩ := hrel
    obtain ⟨P, R, q1, q2, q3, q4, q5⟩ := H1.out
    have hll : (P ++ R).length = len := by rw [stably_length q5]; exact HL.out
    by_cases hlt : b ≤ len
    · have hltz : (b : Int) ≤ (len : Int) := by omega
      have e1 : P ++ R = P ++ R.take 20 ++ R.drop 20 := by simp
      have HC := hid (insertion168 wr g len cap a b P (R.take 20) (R.drop 20) tl (by rw [← e1]; exact q1) (by rw [← e1]; exact hll) q3 (by rw [List.length_take]; rw [List.length_append] at hll; omega) hc (by omega))
      have Q2 := hid q2
      have Q3 := hid q3
      have Q4 := hid q4
      have Q5 := hid q5
      have E1 := hid e1
      have HLL := hid hll
      clear q1 q2 q3 q4 q5 e1 hll H1
      go_wp2_with fail
      refine HC.out.mono ?_
      rintro e w1 ⟨rfl, Y, r1, r2, r3, r4⟩
      have HY : Hid (St1 w g cs tl 20 b w1) := by
        have hl := HLL.out
        rw [List.length_append] at hl
        have hyl := stably_length r4
        have hq := Q3.out
        rw [List.length_take] at hyl
        refine ⟨P ++ Y, R.drop 20, r1, only_trans Q2.out r2, by rw [List.length_append, Q3.out]; omega, wblocks_snoc Q4.out r3 (by omega), ?_⟩
        refine Stably.trans ?_ Q5.out
        rw [E1.out]
        exact Stably.append (Stably.append (Stably.refl _) r4) (Stably.refl _)
      clear r1 r2 r3 r4 HC
      go_wp2_with fail
      go_roundw
      case measure => simp [intOf] <;> omega
      case rel => exact ⟨b, b + 20, by first | rfl | go_num, by go_num, by omega, by omega, by omega, HY⟩
    · have hltz : ¬ (b : Int) ≤ (len : Int) := by omega
      have HC := hid (insertion168 wr g len cap a len P R [] tl (by simpa using q1) (by simpa using hll) q3 (by rw [List.length_append] at hll; omega) hc (by omega))
      have Q2 := hid q2
      have Q3 := hid q3
      have Q4 := hid q4
      have Q5 := hid q5
      have HLL := hid hll
      clear q1 q2 q3 q4 q5 hll H1
      go_wp2_with fail
      refine HC.out.mono ?_
      rintro e w1 ⟨rfl, Y, r1, r2, r3, r4⟩
      have HY : Hid (St3 w g cs tl 20 w1) := by
        have hl := HLL.out
        rw [List.length_append] at hl
        have hyl := stably_length r4
        have hp := Q3.out
        refine ⟨P ++ Y, by simpa using r1, only_trans Q2.out r2, blocks_snoc Q4.out r3 (by omega), ?_⟩
        exact Stably.trans (Stably.append (Stably.refl _) r4) Q5.out
      clear r1 r2 r3 r4 HC Q2 Q3 Q4 Q5 HLL
      go_wp2_with fail
      go_loopw [6] (fun vb wr2 => ∃ bs : Nat, vb = .int .i64 bs ∧ 20 ≤ bs ∧ bs ≤ 2 * len + 20 ∧ Hid (St3 w g cs tl bs wr2)) (fun vb _ => 2 * len + 20 - (intOf vb).toNat)
      case atStart => exact ⟨20, rfl, by omega, by omega, HY⟩
      case round =>
        obtain ⟨bs, rfl, hb1, hb2, H3⟩ := hrel
        by_cases hbl : bs < len
        · have hblz : (bs : Int) < (len : Int) := by omega
          have H2 : Hid (St2 w g cs tl bs 0 wr) := by
            obtain ⟨L, q1, q2, q3, q4⟩ := H3.out
            exact ⟨[], L, by simpa using q1, q2, rfl, wblocks_nil _, q3, by simpa using q4⟩
          clear H3
          go_wp2_with fail
          go_loopw [7, 8] (fun va vb wr3 => ∃ a b : Nat, va = .int .i64 a ∧ vb = .int .i64 b ∧ a + 2 * bs ≤ b ∧ b ≤ a + 2 * bs ∧ a ≤ len ∧ Hid (St2 w g cs tl bs a wr3)) (fun va _ _ => len - (intOf va).toNat)
          case atStart => exact ⟨0, 2 * bs, rfl, by go_num, by omega, by omega, by omega, H2⟩
          case round =>
            obtain ⟨a, b, rfl, rfl, hab3, hab4, hal2, H2⟩ := hrel
            obtain ⟨P', R', q1, q2, q3, q4, q5, q6⟩ := H2.out
            have hll : (P' ++ R').length = len := by rw [stably_length q6]; exact HL.out
            by_cases hlt2 : b ≤ len
            · have hltz2 : (b : Int) ≤ (len : Int) := by omega
              have e1 : P' ++ R' = P' ++ R'.take bs ++ (R'.drop bs).take bs ++ R'.drop (2 * bs) := by
                rw [List.append_assoc, List.append_assoc]
                congr 1
                rw [Nat.two_mul, ← List.drop_drop, List.take_append_drop, List.take_append_drop]
              have hsz : (R'.take bs).length = bs ∧ ((R'.drop bs).take bs).length = bs := by
                rw [List.length_append] at hll
                rw [List.length_take, List.length_take, List.length_drop]; omega
              have HC := hid (symMerge169 (2 * bs) wr g len cap a (a + bs) b P' (R'.take bs) ((R'.drop bs).take bs) (R'.drop (2 * bs)) tl (by rw [← e1]; exact q1) (by rw [← e1]; exact hll) q3 (by omega) (by omega) (by omega) (by omega) q5.first (q5.rest).first hc hm (by omega))
              have hca : ((a : Int) + (bs : Int)) = ((a + bs : Nat) : Int) := by omega
              have CA := hid hca
              have Q2 := hid q2
              have Q3 := hid q3
              have Q4 := hid q4
              have Q5 := hid q5
              have Q6 := hid q6
              have E1 := hid e1
              have SZ := hid hsz
              clear q1 q2 q3 q4 q5 q6 e1 hll H2 hca hsz
              go_wp2_with fail
              rw [CA.out]
              refine HC.out.mono ?_
              rintro e w2 ⟨rfl, Y, r1, r2, r3, r4⟩
              have HY2 : Hid (St2 w g cs tl bs b w2) := by
                have hyl := stably_length r4
                rw [List.length_append] at hyl
                have hs := SZ.out
                refine ⟨P' ++ Y, R'.drop (2 * bs), r1, only_trans Q2.out r2, by rw [List.length_append, Q3.out]; omega, wblocks_snoc Q4.out r3 (by omega), by rw [Nat.two_mul, ← List.drop_drop]; exact (Q5.out.rest).rest, ?_⟩
                refine Stably.trans ?_ Q6.out
                have e2 : P' ++ R'.take bs ++ (R'.drop bs).take bs ++ R'.drop (2 * bs) = P' ++ (R'.take bs ++ (R'.drop bs).take bs) ++ R'.drop (2 * bs) := by simp only [List.append_assoc]
                rw [E1.out, e2]
                exact Stably.append (Stably.append (Stably.refl _) r4) (Stably.refl _)
              clear r1 r2 r3 r4 HC
              go_wp2_with fail
              go_roundw
              case measure => simp [intOf] <;> omega
              case rel => exact ⟨b, b + 2 * bs, by first | rfl | go_num, by go_num, by omega, by omega, by omega, HY2⟩
            · have hltz2 : ¬ (b : Int) ≤ (len : Int) := by omega
              by_cases hlast : a + bs < len
              · have hlastz : (a : Int) + (bs : Int) < (len : Int) := by omega
                have hsz : (R'.take bs).length = bs ∧ (R'.drop bs).length + bs + a = len := by
                  rw [List.length_append] at hll
                  rw [List.length_take, List.length_drop]; omega
                have e1 : P' ++ R' = P' ++ R'.take bs ++ R'.drop bs ++ [] := by simp
                have HC := hid (symMerge169 (2 * bs) wr g len cap a (a + bs) len P' (R'.take bs) (R'.drop bs) [] tl (by rw [← e1]; exact q1) (by rw [← e1]; exact hll) q3 (by omega) (by omega) (by omega) (by omega) q5.first ((q5.rest).whole (by omega)) hc hm (by omega))
                have hca : ((a : Int) + (bs : Int)) = ((a + bs : Nat) : Int) := by omega
                have CA := hid hca
                have Q2 := hid q2
                have Q3 := hid q3
                have Q4 := hid q4
                have Q6 := hid q6
                have SZ := hid hsz
                clear q1 q2 q3 q4 q5 q6 e1 hll H2 hca hsz
                go_wp2_with fail
                rw [CA.out]
                refine HC.out.mono ?_
                rintro e w2 ⟨rfl, Y, r1, r2, r3, r4⟩
                have HY2 : Hid (St3 w g cs tl (2 * bs) w2) := by
                  have hyl := stably_length r4
                  rw [List.length_append] at hyl
                  have hs := SZ.out
                  refine ⟨P' ++ Y, by simpa using r1, only_trans Q2.out r2, blocks_snoc Q4.out r3 (by omega), ?_⟩
                  refine Stably.trans ?_ Q6.out
                  refine Stably.append (Stably.refl _) (Stably.trans r4 ?_)
                  rw [List.take_append_drop]; exact Stably.refl _
                clear r1 r2 r3 r4 HC
                go_wp2_with fail
                go_roundw
                case measure => simp [intOf] <;> omega
                case rel => exact ⟨2 * bs, by first | go_num | (congr 1; omega), by omega, by omega, HY2⟩
              · have hlastz : ¬ (a : Int) + (bs : Int) < (len : Int) := by omega
                have HY2 : Hid (St3 w g cs tl (2 * bs) wr) := by
                  rw [List.length_append] at hll
                  exact ⟨P' ++ R', q1, q2, blocks_snoc q4 (q5.whole (by omega)) (by omega), q6⟩
                clear q1 q2 q3 q4 q5 q6 hll H2
                go_wp2_with fail
                go_roundw
                case measure => simp [intOf] <;> omega
                case rel => exact ⟨2 * bs, by first | go_num | (congr 1; omega), by omega, by omega, HY2⟩
        · have hblz : ¬ (bs : Int) < (len : Int) := by omega
          go_wp2_with fail
          go_end0
          obtain ⟨L, q1, q2, q3, q4⟩ := H3.out
          have hll : L.length = len := by rw [stably_length q4]; exact HL.out
          exact ⟨rfl, L, q1, q2, q3.whole (by omega), q4⟩

set_option maxHeartbeats 400000 in
theorem sortStable93 (w : World) (g len cap : Nat) (cs : List (Int × Int)) (tl : List Value) (hr : Row w g cs tl) (hlen : cs.length = len) (hc : len ≤ cap) (hm : len ≤ 2305843009213693951) :
    Calls Try.prog 93 #[.slice (some ⟨g, 0, none⟩) len cap, .func (.func 94) #[] #[]] w fun e w' =>
      e = .returned (.tuple #[]) ∧ ∃ C, Row w' g C tl ∧ w.grownBy w' (some g) ∧ SortedC C ∧ Stably C cs := by
  have HC := hid (stable148 w g len cap cs tl hr hlen hc hm)
  clear hr hlen
  go_enter Try.func93, Try.ntmps93
  go_wp2_with fail
  refine HC.out.mono ?_
  rintro e w1 ⟨rfl, C, r1, r2, r3, r4⟩
  have HR : Hid (∃ C, Row w1 g C tl ∧ w.grownBy w1 (some g) ∧ SortedC C ∧ Stably C cs) := ⟨C, r1, r2, r3, r4⟩
  clear r1 r2 r3 r4 HC
  go_wp2_with fail
  go_end0
  exact ⟨rfl, HR.out⟩
end Go.Proofs.Ytndohmimcbmhdaa
