/- What the library leaves of a row of categories, when of neighbours of one name the first is kept. -/
import Derived.Test.YtndohmimcbmhdaaDel
set_option linter.unusedVariables false
set_option linter.unusedSimpArgs false
namespace Go.Proofs.Ytndohmimcbmhdaa
open Go.RowKit Go.Sort

def compactFrom (x : Int × Int) : List (Int × Int) → List (Int × Int)
  | [] => []
  | y :: r => if y.1 == x.1 then compactFrom y r else y :: compactFrom y r
def compactL : List (Int × Int) → List (Int × Int)
  | [] => []
  | x :: r => x :: compactFrom x r

theorem compactFrom_snoc : ∀ (l : List (Int × Int)) (x z y : Int × Int), compactFrom z (l ++ [x, y]) = compactFrom z (l ++ [x]) ++ (if y.1 == x.1 then [] else [y]) := by
  intro l
  induction l with
  | nil =>
    intro x z y
    simp only [List.nil_append, compactFrom]
    by_cases h1 : (x.1 == z.1) = true <;> by_cases h2 : (y.1 == x.1) = true <;> simp [h1, h2]
  | cons c l ih =>
    intro x z y
    simp only [List.cons_append, compactFrom, ih]
    split <;> simp
theorem compactL_snoc (l : List (Int × Int)) (x y : Int × Int) : compactL (l ++ [x, y]) = compactL (l ++ [x]) ++ (if y.1 == x.1 then [] else [y]) := by
  cases l with
  | nil =>
    simp only [List.nil_append, compactL, compactFrom]
    by_cases h2 : (y.1 == x.1) = true <;> simp [h2]
  | cons c l => simp only [List.cons_append, compactL, compactFrom_snoc]
theorem compactL_take {cs : List (Int × Int)} {j : Nat} {x y : Int × Int} (hx : cs[j]? = some x) (hy : cs[j + 1]? = some y) : compactL (cs.take (j + 2)) = compactL (cs.take (j + 1)) ++ (if y.1 == x.1 then [] else [y]) := by
  have e1 : cs.take (j + 1) = cs.take j ++ [x] := by rw [List.take_add_one, hx]; rfl
  have e2 : cs.take (j + 2) = cs.take j ++ [x, y] := by rw [List.take_add_one, e1, hy]; simp
  rw [e1, e2, compactL_snoc]

/-- Where the second pass stands: k are kept of the first j + 1; the last of these lies in its place. -/
def ComAt (w : World) (g : Nat) (cs : List (Int × Int)) (tl : List Value) (k j : Nat) (wr : World) : Prop :=
  ∃ M, Row wr g (compactL (cs.take (j + 1)) ++ (M ++ cs.drop j)) tl ∧ w.grownBy wr (some g) ∧ (compactL (cs.take (j + 1))).length = k ∧ M.length + k = j

set_option maxRecDepth 100000 in
set_option maxHeartbeats 4000000 in
theorem compact96 (w : World) (g n cap : Nat) (cs : List (Int × Int)) (tl : List Value) (hr : Row w g cs tl) (hlen : cs.length = n) (hc : n ≤ cap) (hm : cap ≤ maxLen) :
    Calls Try.prog 96 #[.slice (some ⟨g, 0, none⟩) n cap, .func (.func 97) #[] #[]] w fun e w' => e = .returned (.slice (some ⟨g, 0, none⟩) (compactL cs).length cap) ∧ Shrunk w g cs (compactL cs) tl w' := by
  unfold maxLen at hm
  have HL := hid hlen
  have mixed : Try.prog.follows .mixedOrders = true := by kernel_rfl
  by_cases hsmall : n < 2
  · have hcc : compactL cs = cs := by
      match cs, hlen with
      | [], _ => rfl
      | [x], _ => rfl
      | x :: y :: r, h => simp at h; omega
    have HP : Shrunk w g cs (compactL cs) tl w := by rw [hcc]; exact ⟨tl, hr, rfl, only_refl _ _⟩
    have HN : Hid ((compactL cs).length = n) := by show _ = _; rw [hcc, hlen]
    have hz : (n : Int) < 2 := by omega
    clear hcc hr hlen
    generalize compactL cs = F at *
    go_enter Try.func96, Try.ntmps96
    go_wp2_with fail
    go_ret
    exact ⟨by rw [HN.out]; rfl, HP⟩
  · have hz : ¬ (n : Int) < 2 := by omega
    have hr0 := hid hr
    have HA0 : Hid (compactL (cs.take 1) = cs.take 1) := by
      show _ = _
      cases cs with
      | nil => rfl
      | cons x r => rfl
    clear hr hlen
    go_enter Try.func96, Try.ntmps96
    go_wp2_with fail
    go_loopw [5] (fun vk wr => ∃ k : Nat, vk = .int .i64 k ∧ 1 ≤ k ∧ k ≤ n ∧ Hid (compactL (cs.take k) = cs.take k) ∧ Hid (Row wr g cs tl) ∧ Hid (w.grownBy wr (some g))) (fun vk _ => n - (intOf vk).toNat)
    case atStart => exact ⟨1, rfl, by omega, by omega, HA0, hr0, only_refl _ _⟩
    case round =>
      obtain ⟨k, rfl, hk1, hkn, HC, HR, HG⟩ := hrel
      by_cases hlt : k < n
      · have hltz : (k : Int) < (n : Int) := by omega
        obtain ⟨kp, rfl⟩ : ∃ kp, k = kp + 1 := ⟨k - 1, by omega⟩
        obtain ⟨x, hx⟩ : ∃ x, cs[kp]? = some x := ⟨_, List.getElem?_eq_getElem (by have := HL.out; omega)⟩
        obtain ⟨y, hy⟩ : ∃ y, cs[kp + 1]? = some y := ⟨_, List.getElem?_eq_getElem (by have := HL.out; omega)⟩
        have c0 : ∀ m os, (grow (wr.drewN m) os).cell? ⟨g, kp * 2, none⟩ = some (.int .u64 x.1) := fun m os => (HR.out.grow m os).cell0 hx
        have c1 : ∀ m os, (grow (wr.drewN m) os).cell? ⟨g, kp * 2 + 1, none⟩ = some (.int .i64 x.2) := fun m os => (HR.out.grow m os).cell1 hx
        have c2 : ∀ m os, (grow (wr.drewN m) os).cell? ⟨g, (kp + 1) * 2, none⟩ = some (.int .u64 y.1) := fun m os => (HR.out.grow m os).cell0 hy
        have c3 : ∀ m os, (grow (wr.drewN m) os).cell? ⟨g, (kp + 1) * 2 + 1, none⟩ = some (.int .i64 y.2) := fun m os => (HR.out.grow m os).cell1 hy
        have hz1 : (kp : Int) + 1 < (n : Int) := by omega
        have hz2 : (0 : Int) ≤ (kp : Int) + 1 := by omega
        have hz3 : (kp : Int) < (n : Int) := by omega
        have hwp : IntKind.i64.wrap (kp : Int) = (kp : Int) := by rw [IntKind.wrap_i64]; omega
        have e2 : ((kp : Int) + 1).toNat = kp + 1 := by omega
        have HX := hid hx
        have HY := hid hy
        clear hx hy
        cases hq : (y.1 == x.1) with
        | false =>
          have HQ := hid hq
          go_wp2_with fail
          go_quiet_grown (first | (go_at_call 97; refine Calls.grown_of (same97 y x _)))
          go_wp2_with fail
          have RQ := HR.out.grow nq osq
          have GQ := only_below HG.out (grown_below nq osq)
          have HN : Hid (compactL (cs.take (kp + 1 + 1)) = cs.take (kp + 1 + 1)) := by
            show _ = _
            rw [compactL_take HX.out HY.out, HQ.out, HC.out, List.take_add_one (i := kp + 1), HY.out]; rfl
          go_roundw
          case measure => simp [intOf] <;> omega
          case rel => exact ⟨kp + 1 + 1, by go_num, by omega, by omega, HN, RQ, GQ⟩
        | true =>
          have HQ := hid hq
          go_wp2_with fail
          go_quiet_grown (first | (go_at_call 97; refine Calls.grown_of (same97 y x _)))
          have RQ := HR.out.grow nq osq
          have GQ := only_below HG.out (grown_below nq osq)
          have HN : Hid (ComAt w g cs tl (kp + 1) (kp + 1) (grow (wr.drewN nq) osq)) := by
            have e : compactL (cs.take (kp + 1 + 1)) = cs.take (kp + 1) := by
              rw [compactL_take HX.out HY.out, HQ.out, HC.out]; simp
            refine ⟨[], ?_, GQ, ?_, by simp⟩
            · rw [e, List.nil_append, List.take_append_drop]; exact RQ
            · rw [e, List.length_take]; have := HL.out; omega
          clear RQ GQ c0 c1 c2 c3
          generalize grow (wr.drewN nq) osq = wq at *
          have hz4 : ¬ cap = kp + 1 := by omega
          have hz5 : (n : Int) ≤ (cap : Int) := by omega
          clear HQ HC HR HG hwp
          have hgl : g < wq.heap.size := by obtain ⟨M, q1, _⟩ := HN.out; exact q1.lt
          go_wp2_with fail
          generalize (y.fst == x.fst) = bb at *
          subst hq
          go_loopw [5, 7] (fun vk vk2 wr => ∃ k t k2 : Nat, vk = .int .i64 k ∧ vk2 = .int .i64 k2 ∧ t + 1 = k2 ∧ kp + 1 + t < n ∧ 1 ≤ k ∧ k ≤ kp + 1 + t ∧ Hid (ComAt w g cs tl k (kp + 1 + t) wr)) (fun _ vk2 _ => n - (intOf vk2).toNat)
          case atStart => exact ⟨kp + 1, 0, 1, by go_num, rfl, rfl, by omega, by omega, by omega, HN⟩
          case round =>
            obtain ⟨k, t, k2, rfl, rfl, ht, htn, hk1', hkt, HA⟩ := hrel
            by_cases hlt2 : k2 < n - (kp + 1)
            · have hltz2 : (k2 : Int) < ((n - (kp + 1) : Nat) : Int) := by omega
              have htz : (k2 : Int) - 1 = (t : Int) := by omega
              have htz2 : (t : Int) < ((n - (kp + 1) : Nat) : Int) := by omega
              have htl : t < n - (kp + 1) := by omega
              have hwt : IntKind.i64.wrap (t : Int) = (t : Int) := by rw [IntKind.wrap_i64]; omega
              have hkz : (k : Int) < (n : Int) := by omega
              have hkn' : k < n := by omega
              obtain ⟨M, q1, q2, q3, q4⟩ := HA.out
              obtain ⟨x', hx'⟩ : ∃ x, cs[kp + 1 + t]? = some x := ⟨_, List.getElem?_eq_getElem (by have := HL.out; omega)⟩
              obtain ⟨y', hy'⟩ : ∃ y, cs[kp + 1 + t + 1]? = some y := ⟨_, List.getElem?_eq_getElem (by have := HL.out; omega)⟩
              have ex : (compactL (cs.take (kp + 1 + t + 1)) ++ (M ++ cs.drop (kp + 1 + t)))[kp + 1 + t]? = some x' := by
                rw [← List.append_assoc, List.getElem?_append_right (by simp; omega), List.getElem?_drop]
                have e : kp + 1 + t + (kp + 1 + t - (compactL (cs.take (kp + 1 + t + 1)) ++ M).length) = kp + 1 + t := by simp; omega
                rw [e]; exact hx'
              have ey : (compactL (cs.take (kp + 1 + t + 1)) ++ (M ++ cs.drop (kp + 1 + t)))[kp + 1 + t + 1]? = some y' := by
                rw [← List.append_assoc, List.getElem?_append_right (by simp; omega), List.getElem?_drop]
                have e : kp + 1 + t + (kp + 1 + t + 1 - (compactL (cs.take (kp + 1 + t + 1)) ++ M).length) = kp + 1 + t + 1 := by simp; omega
                rw [e]; exact hy'
              have e1 : (kp + 1) * 2 + t * 2 = (kp + 1 + t) * 2 := by omega
              have e2' : (kp + 1) * 2 + k2 * 2 = (kp + 1 + t + 1) * 2 := by omega
              have c0 : ∀ m os, (grow (wr.drewN m) os).cell? ⟨g, (kp + 1) * 2 + t * 2, none⟩ = some (.int .u64 x'.1) := fun m os => by rw [e1]; exact (q1.grow m os).cell0 ex
              have c1 : ∀ m os, (grow (wr.drewN m) os).cell? ⟨g, (kp + 1) * 2 + t * 2 + 1, none⟩ = some (.int .i64 x'.2) := fun m os => by rw [e1]; exact (q1.grow m os).cell1 ex
              have c2 : ∀ m os, (grow (wr.drewN m) os).cell? ⟨g, (kp + 1) * 2 + k2 * 2, none⟩ = some (.int .u64 y'.1) := fun m os => by rw [e2']; exact (q1.grow m os).cell0 ey
              have c3 : ∀ m os, (grow (wr.drewN m) os).cell? ⟨g, (kp + 1) * 2 + k2 * 2 + 1, none⟩ = some (.int .i64 y'.2) := fun m os => by rw [e2']; exact (q1.grow m os).cell1 ey
              have f0 : ∀ m os, (grow (wr.drewN m) os).frozen? ⟨g, k * 2, none⟩ = false := fun m os => (q1.grow m os).free _
              have f1 : ∀ m os, (grow (wr.drewN m) os).frozen? ⟨g, k * 2 + 1, none⟩ = false := fun m os => (q1.grow m os).free _
              obtain ⟨z, hz'⟩ : ∃ z, (compactL (cs.take (kp + 1 + t + 1)) ++ (M ++ cs.drop (kp + 1 + t)))[k]? = some z := ⟨_, getD_some _ (by have := HL.out; simp; omega)⟩
              have d0 : ∀ m os, (grow (wr.drewN m) os).cell? ⟨g, k * 2, none⟩ = some (.int .u64 z.1) := fun m os => (q1.grow m os).cell0 hz'
              have d1 : ∀ m os, (grow (wr.drewN m) os).cell? ⟨g, k * 2 + 1, none⟩ = some (.int .i64 z.2) := fun m os => (q1.grow m os).cell1 hz'
              have HX' := hid hx'
              have HY' := hid hy'
              have Q1 := hid q1
              have Q2 := hid q2
              have Q3 := hid q3
              have Q4 := hid q4
              have HT' := hid ht
              clear hx' hy' ex ey hz' q1 q2 q3 q4 e1 e2' HA
              cases hq' : (y'.1 == x'.1) with
              | true =>
                have HQ' := hid hq'
                go_wp2_with fail
                go_quiet_grown (first | (go_at_call 97; refine Calls.grown_of (same97 y' x' _)))
                go_wp2_with fail
                have RQ := Q1.out.grow nq osq
                have GQ := only_below Q2.out (grown_below nq osq)
                have HN' : Hid (ComAt w g cs tl k (kp + 1 + (t + 1)) (grow (wr.drewN nq) osq)) := by
                  refine ⟨M ++ [x'], ?_, GQ, ?_, ?_⟩
                  · have e : compactL (cs.take (kp + 1 + (t + 1) + 1)) = compactL (cs.take (kp + 1 + t + 1)) := by
                      have := compactL_take HX'.out HY'.out
                      rw [HQ'.out] at this
                      rw [show kp + 1 + (t + 1) + 1 = kp + 1 + t + 2 by omega]
                      simpa using this
                    rw [e]
                    have e3 : cs.drop (kp + 1 + t) = x' :: cs.drop (kp + 1 + (t + 1)) := by
                      obtain ⟨hl, rfl⟩ := List.getElem?_eq_some_iff.1 HX'.out
                      exact List.drop_eq_getElem_cons hl
                    rw [e3] at RQ
                    simpa using RQ
                  · have e : compactL (cs.take (kp + 1 + (t + 1) + 1)) = compactL (cs.take (kp + 1 + t + 1)) := by
                      have := compactL_take HX'.out HY'.out
                      rw [HQ'.out] at this
                      rw [show kp + 1 + (t + 1) + 1 = kp + 1 + t + 2 by omega]
                      simpa using this
                    rw [e]; exact Q3.out
                  · have := Q4.out; simp; omega
                go_roundw
                case measure => simp [intOf] <;> omega
                case rel => exact ⟨k, t + 1, k2 + 1, rfl, by go_num, by omega, by omega, by omega, by omega, HN'⟩
              | false =>
                have HQ' := hid hq'
                go_wp2_with fail
                go_quiet_grown (first | (go_at_call 97; refine Calls.grown_of (same97 y' x' _)))
                go_wp2_with fail
                have RQ := (Q1.out.grow nq osq).put (i := k) (by have := HL.out; have := Q3.out; have := Q4.out; simp; omega) y'
                have GQ := only_setCell (only_setCell (only_below Q2.out (grown_below nq osq)) (p := ⟨g, k * 2, none⟩) (.inl rfl) (.int .u64 y'.1)) (p := ⟨g, k * 2 + 1, none⟩) (.inl rfl) (.int .i64 y'.2)
                have HN' : Hid (ComAt w g cs tl (k + 1) (kp + 1 + (t + 1)) (((grow (wr.drewN nq) osq).setCell ⟨g, k * 2, none⟩ (.int .u64 y'.1)).setCell ⟨g, k * 2 + 1, none⟩ (.int .i64 y'.2))) := by
                  have e : compactL (cs.take (kp + 1 + (t + 1) + 1)) = compactL (cs.take (kp + 1 + t + 1)) ++ [y'] := by
                    have := compactL_take HX'.out HY'.out
                    rw [HQ'.out] at this
                    rw [show kp + 1 + (t + 1) + 1 = kp + 1 + t + 2 by omega]
                    simpa using this
                  have q3 := Q3.out
                  have q4 := Q4.out
                  have e3 : cs.drop (kp + 1 + t) = x' :: cs.drop (kp + 1 + (t + 1)) := by
                    obtain ⟨hl, rfl⟩ := List.getElem?_eq_some_iff.1 HX'.out
                    exact List.drop_eq_getElem_cons hl
                  cases M with
                  | nil =>
                    refine ⟨[], ?_, GQ, ?_, ?_⟩
                    · have e4 : (compactL (cs.take (kp + 1 + t + 1)) ++ ([] ++ cs.drop (kp + 1 + t))).set k y' = compactL (cs.take (kp + 1 + (t + 1) + 1)) ++ ([] ++ cs.drop (kp + 1 + (t + 1))) := by
                        rw [e, e3, ← q3, List.set_append_right _ _ (by omega)]; simp
                      rw [← e4]; exact RQ
                    · rw [e]; simp; omega
                    · simp at q4 ⊢; omega
                  | cons m0 M =>
                    refine ⟨M ++ [x'], ?_, GQ, ?_, ?_⟩
                    · have e4 : (compactL (cs.take (kp + 1 + t + 1)) ++ (m0 :: M ++ cs.drop (kp + 1 + t))).set k y' = compactL (cs.take (kp + 1 + (t + 1) + 1)) ++ (M ++ [x'] ++ cs.drop (kp + 1 + (t + 1))) := by
                        rw [e, e3, ← q3, List.set_append_right _ _ (by omega)]; simp
                      rw [← e4]; exact RQ
                    · rw [e]; simp; omega
                    · simp at q4 ⊢; omega
                go_roundw
                case measure => simp [intOf] <;> omega
                case rel => exact ⟨k + 1, t + 1, k2 + 1, by go_num, by go_num, by omega, by omega, by omega, by omega, HN'⟩
            · have hltz2 : ¬ (k2 : Int) < ((n - (kp + 1) : Nat) : Int) := by omega
              obtain ⟨M, q1, q2, q3, q4⟩ := HA.out
              have hln := HL.out
              have et : cs.take (kp + 1 + t + 1) = cs := List.take_of_length_le (by omega)
              rw [et] at q1 q3
              have hMl : (M ++ cs.drop (kp + 1 + t)).length = n - k := by simp; omega
              have hcl := fun ty => run_clear_cats q1 (cap - k) (by omega) ty
              rw [q3, hMl] at hcl
              have hz0' : (0 : Int) ≤ (k : Int) := by omega
              have hz1' : (k : Int) ≤ (n : Int) := by omega
              have hz2' : (k : Int) ≤ (cap : Int) := by omega
              have hz4' : ¬ cap = k := by omega
              have HF := hid q3
              have HR2 : Hid (Shrunk w g cs (compactL cs) tl (wr.setCells g (k * 2) (flat (List.replicate (n - k) (0, 0))))) := by
                have h := Row.putMany (List.replicate (n - k) (0, 0)) _ _ _ q1 (by rw [hMl]; simp)
                rw [q3] at h
                refine ⟨flat (List.replicate (n - k) (0, 0)) ++ tl, ?_, ?_, only_setCells _ _ _ q2⟩
                · unfold Row at h ⊢
                  have e : (M ++ cs.drop (kp + 1 + t)).drop (List.replicate (n - k) ((0 : Int), (0 : Int))).length = [] := List.drop_eq_nil_of_le (by rw [hMl]; simp)
                  rw [e, List.append_nil, flat_append, List.append_assoc] at h
                  exact h
                · simp only [List.length_append, flat_length, List.length_replicate]; omega
              clear q1 q2 q3 q4 et HA hMl
              go_wp2_with fail
              go_ret
              exact ⟨by rw [HF.out]; rfl, HR2.out⟩
      · have hltz : ¬ (k : Int) < (n : Int) := by omega
        have hkn2 : Hid (compactL cs = cs) := by
          show _ = _
          have := HC.out
          rwa [List.take_of_length_le (by have := HL.out; omega)] at this
        have HP : Shrunk w g cs (compactL cs) tl wr := by rw [hkn2.out]; exact ⟨tl, HR.out, rfl, HG.out⟩
        have HN : Hid ((compactL cs).length = n) := by show _ = _; rw [hkn2.out]; exact HL.out
        have HPP : Hid (Shrunk w g cs (compactL cs) tl wr) := HP
        clear hkn2 HC HP
        go_wp2_with fail
        go_ret
        exact ⟨by rw [HN.out]; rfl, HPP.out⟩
end Go.Proofs.Ytndohmimcbmhdaa
