/- What the library strikes out of a row of categories in place: those that meet a test; neighbours of one name. -/
import Derived.Test.YtndohmimcbmhdaaSl
import Derived.BigQuiet
set_option linter.unusedVariables false
set_option linter.unusedSimpArgs false
namespace Go.Proofs.Ytndohmimcbmhdaa
open Go.RowKit Go.Sort

/-- .. a test that is asked while block g is being written. -/
def TestOver (fn : Nat) (cb : Array Value) (p : Int × Int → Bool) (w : World) (g : Nat) : Prop :=
  ∀ W, w.grownBy W (some g) → ∀ x : Int × Int, Calls Try.prog fn (#[.agg #[.int .u64 x.1, .int .i64 x.2]] ++ cb) W fun e w' => e = .returned (.bool (p x)) ∧ Below W.heap.size W w'
theorem TestOver.ok {fn : Nat} {cb : Array Value} {p : Int × Int → Bool} {w : World} {g : Nat} (h : TestOver fn cb p w g) : TestOk fn cb p w :=
  fun W hW x => (h W (only_of_below hW _) x).mono fun _ _ ⟨he, hb⟩ => ⟨he, hW.trans (hb.mono hW.size)⟩

theorem zeros_flat (n : Nat) : (Builtin.zeroCells (Value.agg #[.int .u64 0, .int .i64 0]).cells n).toList = flat (List.replicate n (0, 0)) := by
  apply List.ext_getElem?
  intro i
  by_cases hi : i < n * 2
  · have h1 : (flat (List.replicate n ((0 : Int), (0 : Int))))[i]? = some (if i % 2 = 0 then .int .u64 0 else .int .i64 0) := by
      have hx : (List.replicate n ((0 : Int), (0 : Int)))[i / 2]? = some (0, 0) := by rw [List.getElem?_replicate, if_pos (by omega)]
      by_cases hp : i % 2 = 0
      · have e : i = i / 2 * 2 := by omega
        have := flat_get0 _ _ _ hx
        rw [← e] at this
        rw [this, if_pos hp]
      · have e : i = i / 2 * 2 + 1 := by omega
        have := flat_get1 _ _ _ hx
        rw [← e] at this
        rw [this, if_neg hp]
    rw [h1]
    have hsz : (Value.agg #[.int .u64 0, .int .i64 0]).cells.size = 2 := rfl
    simp only [Builtin.zeroCells, hsz, Array.toList_map, Array.toList_range, List.getElem?_map, List.getElem?_range hi, Option.map_some]
    congr 1
    by_cases hp : i % 2 = 0
    · rw [if_pos hp, hp]; rfl
    · rw [if_neg hp, show i % 2 = 1 by omega]; rfl
  · rw [List.getElem?_eq_none (by simp [Builtin.zeroCells, Value.cells]; omega), List.getElem?_eq_none (by simp; omega)]

/-- A run of stores into a row. -/
theorem Row.putMany {g : Nat} {tl : List Value} : ∀ (Z : List (Int × Int)) (w : World) (A R : List (Int × Int)), Row w g (A ++ R) tl → Z.length ≤ R.length →
    Row (w.setCells g (A.length * 2) (flat Z)) g (A ++ Z ++ R.drop Z.length) tl := by
  intro Z
  induction Z with
  | nil => intro w A R h _; simpa [World.setCells] using h
  | cons z Z ih =>
    intro w A R h hl
    cases R with
    | nil => simp at hl
    | cons r R =>
      simp only [flat_cons, World.setCells]
      have h1 := h.put (i := A.length) (by simp) z
      have e : (A ++ r :: R).set A.length z = (A ++ [z]) ++ R := by rw [List.set_append_right _ _ (by omega)]; simp
      rw [e] at h1
      have h2 := ih _ (A ++ [z]) R h1 (by simp at hl; omega)
      have e2 : (A ++ [z]).length * 2 = A.length * 2 + 1 + 1 := by simp; omega
      rw [e2] at h2
      simpa using h2
theorem only_setCells {a : World} {g : Nat} : ∀ (vs : List Value) (o : Nat) (w : World), a.grownBy w (some g) → a.grownBy (w.setCells g o vs) (some g) := by
  intro vs
  induction vs with
  | nil => intro o w h; exact h
  | cons v vs ih => intro o w h; exact ih _ _ (only_setCell h (.inl rfl) v)

theorem run_clear_cats {w : World} {g : Nat} {A R : List (Int × Int)} {tl : List Value} (h : Row w g (A ++ R) tl) (cap : Nat) (hR : 0 < R.length) (ty : TypeId) :
    (Builtin.clear_ #[23] ty #[.slice (some ⟨g, A.length * 2, none⟩) R.length cap]).run Try.prog w = .ok (.tuple #[]) (w.setCells g (A.length * 2) (flat (List.replicate R.length (0, 0)))) := by
  have hv : (zeroValue 32).run Try.prog w = .ok (.agg #[.int .u64 0, .int .i64 0]) w := by kernel_rfl
  have hst := run_storeCells_cells (P := Try.prog) g (A.length * 2) (flat (List.replicate R.length ((0 : Int), (0 : Int)))) 0 w
    (fun j hj => by
      rw [Blk.cell h]
      have : A.length * 2 + 0 + j < (flat (A ++ R) ++ tl).length := by simp at hj ⊢; omega
      simp only [List.getElem?_toArray, List.getElem?_eq_getElem this, Option.isSome_some])
    (fun j hj => h.free _) (flat_one _)
  simp only [Nat.add_zero] at hst
  obtain ⟨m, hm⟩ : ∃ m, R.length = m + 1 := ⟨R.length - 1, by omega⟩
  rw [hm] at hst ⊢
  simp [Builtin.clear_, run_underlying Try.underlying23, hv, zeros_flat, hst]

/-- Of the row that held cs the first ones hold F now; nothing else has turned. -/
def Shrunk (w : World) (g : Nat) (cs F : List (Int × Int)) (tl : List Value) (w' : World) : Prop := ∃ tl', Row w' g F tl' ∧ (flat F ++ tl').length = (flat cs ++ tl).length ∧ w.grownBy w' (some g)

/-- Where the striking out stands: i are kept of the first j. -/
def DelAt (w : World) (g : Nat) (p : Int × Int → Bool) (cs : List (Int × Int)) (tl : List Value) (i j : Nat) (wr : World) : Prop :=
  ∃ M, Row wr g ((cs.take j).filter (fun x => !p x) ++ (M ++ cs.drop j)) tl ∧ w.grownBy wr (some g) ∧ ((cs.take j).filter (fun x => !p x)).length = i ∧ M.length + i = j

theorem take_succ_filter {p : Int × Int → Bool} {cs : List (Int × Int)} {j : Nat} {x : Int × Int} (hx : cs[j]? = some x) : (cs.take (j + 1)).filter (fun x => !p x) = (cs.take j).filter (fun x => !p x) ++ (if p x then [] else [x]) := by
  rw [List.take_add_one, hx, List.filter_append]
  cases h : p x <;> simp [h]

set_option maxRecDepth 100000 in
set_option maxHeartbeats 4000000 in
theorem delete98 (w : World) (g n cap : Nat) (cs : List (Int × Int)) (tl : List Value) (fn : Nat) (cb : Array Value) (p : Int × Int → Bool) (hr : Row w g cs tl) (hlen : cs.length = n) (hc : n ≤ cap) (hm : cap ≤ maxLen) (ht : TestOver fn cb p w g)
    (eg : ∀ args w, (callFunc fn args).run Try.prog w = .ok (.enter fn args) w) :
    Calls Try.prog 98 #[.slice (some ⟨g, 0, none⟩) n cap, .func (.func fn) #[] cb] w fun e w' => e = .returned (.slice (some ⟨g, 0, none⟩) (cs.filter (fun x => !p x)).length cap) ∧ Shrunk w g cs (cs.filter (fun x => !p x)) tl w' := by
  unfold maxLen at hm
  have hcats : CatsAt w w.heap.size (some ⟨g, 0, none⟩) n cap cs := by have := CatsAt.of_row hr (c := cap) (by omega) (by unfold maxLen; omega); rwa [hlen] at this
  have HI := hid (indexFunc150 w _ _ _ cs fn cb p hcats ht.ok eg)
  have HT : Hid (TestOver fn cb p w g) := ht
  clear hcats
  cases hf : cs.findIdx? p with
  | none =>
    have hno := List.findIdx?_eq_none_iff.1 hf
    have hfl : cs.filter (fun x => !p x) = cs := by
      rw [List.filter_eq_self]; intro x hx; rw [hno x hx]; rfl
    have HP : Hid (∀ w', Below w.heap.size w w' → Shrunk w g cs (cs.filter (fun x => !p x)) tl w') := by
      intro w' hb
      rw [hfl]
      exact ⟨tl, hr.below hb hr.lt, rfl, only_of_below hb _⟩
    have HL : Hid (((cs.filter (fun x => !p x)).length : Nat) = n) := by show _ = _; rw [hfl, hlen]
    have hi : idxOf p cs = -1 := by unfold idxOf; rw [hf]
    rw [hi] at HI
    clear hf hno hfl hi hr hlen ht
    generalize cs.filter (fun x => !p x) = F at *
    go_enter Try.func98, Try.ntmps98
    go_wp2_with fail
    refine HI.out.mono ?_
    rintro e w1 ⟨rfl, hb⟩
    have HQ := HP.out w1 hb
    clear hb HI HP
    go_wp2_with fail
    go_ret
    exact ⟨by rw [HL.out]; rfl, HQ⟩
  | some k =>
    obtain ⟨hk, hpk, hnk⟩ := List.findIdx?_eq_some_iff_getElem.1 hf
    have hi : idxOf p cs = (k : Int) := by unfold idxOf; rw [hf]
    rw [hi] at HI
    have hxk := List.getElem?_eq_getElem hk
    have hpre : (cs.take k).filter (fun x => !p x) = cs.take k := by
      rw [List.filter_eq_self]
      intro x hx
      obtain ⟨j, hj, rfl⟩ := List.getElem_of_mem hx
      rw [List.length_take] at hj
      rw [List.getElem_take]
      have := hnk j (by omega)
      simp at this; rw [this]; rfl
    have HD : Hid (∀ w', Below w.heap.size w w' → DelAt w g p cs tl k (k + 1) w') := by
      intro w' hb
      refine ⟨[cs[k]], ?_, only_of_below hb _, ?_, ?_⟩
      · rw [take_succ_filter hxk, hpk, hpre]
        have e : cs.take k ++ (if true = true then [] else [cs[k]]) ++ ([cs[k]] ++ cs.drop (k + 1)) = cs := by
          simp
        rw [e]
        exact hr.below hb hr.lt
      · rw [take_succ_filter hxk, hpk, hpre]; simp; omega
      · simp; omega
    have hkn : k < n := by omega
    have HL := hid hlen
    have hkne : ((k : Int) == -1) = false := by rw [beq_eq_false_iff_ne]; omega
    have hg := hr.lt
    clear hf hk hpk hnk hi hxk hpre hr hlen ht
    go_enter Try.func98, Try.ntmps98
    go_wp2_with fail
    refine HI.out.mono ?_
    rintro e w1 ⟨rfl, hb⟩
    have HQ : Hid (DelAt w g p cs tl k (k + 1) w1) := HD.out w1 hb
    clear hb HI HD
    go_wp2_with fail
    go_loopw [5, 6] (fun vi vj wr => ∃ i j : Nat, vi = .int .i64 i ∧ vj = .int .i64 j ∧ i < j ∧ j ≤ n ∧ Hid (DelAt w g p cs tl i j wr)) (fun _ vj _ => n - (intOf vj).toNat)
    case atStart => exact ⟨k, k + 1, rfl, by go_num, by omega, by omega, HQ⟩
    case round =>
      obtain ⟨i, j, rfl, rfl, hij, hjn, HA⟩ := hrel
      by_cases hlt : j < n
      · have hltz : (j : Int) < (n : Int) := by omega
        obtain ⟨M, q1, q2, q3, q4⟩ := HA.out
        obtain ⟨x, hx⟩ : ∃ x, cs[j]? = some x := ⟨_, List.getElem?_eq_getElem (by have := HL.out; omega)⟩
        have ejx : ((cs.take j).filter (fun x => !p x) ++ (M ++ cs.drop j))[j]? = some x := by
          rw [← List.append_assoc, List.getElem?_append_right (by simp; omega)]
          have e : j - ((cs.take j).filter (fun x => !p x) ++ M).length = 0 := by simp; omega
          rw [e, List.getElem?_drop]; simpa using hx
        have c0 := q1.cell0 ejx
        have c1 := q1.cell1 ejx
        have hcall := HT.out
        have Q1 := hid q1
        have Q2 := hid q2
        have Q3 := hid q3
        have Q4 := hid q4
        have HX := hid hx
        have hgl : g < wr.heap.size := q1.lt
        clear q1 q2 q3 q4 hx ejx hcall HA
        go_wp2_with fail
        refine (HT.out _ (only_alloc Q2.out _) x).mono ?_
        rintro e w2 ⟨rfl, hb⟩
        have RQ := (Q1.out.alloc (Obj.cells #[.int .u64 x.1, .int .i64 x.2] 32)).below hb (by simp; omega)
        have GQ := only_below (only_alloc Q2.out (Obj.cells #[.int .u64 x.1, .int .i64 x.2] 32)) hb
        have b0 : w2.cell? ⟨wr.heap.size, 0, none⟩ = some (.int .u64 x.1) := by rw [hb.cell (p := ⟨wr.heap.size, 0, none⟩) (by simp)]; simp
        have b1 : w2.cell? ⟨wr.heap.size, 1, none⟩ = some (.int .i64 x.2) := by rw [hb.cell (p := ⟨wr.heap.size, 1, none⟩) (by simp)]; simp
        obtain ⟨y, hy⟩ : ∃ y, ((cs.take j).filter (fun x => !p x) ++ (M ++ cs.drop j))[i]? = some y := ⟨_, getD_some _ (by have := Q3.out; have := Q4.out; simp; omega)⟩
        have d0 := RQ.cell0 hy
        have d1 := RQ.cell1 hy
        have f0 := RQ.free (i * 2)
        have f1 := RQ.free (i * 2 + 1)
        have hin : (i : Int) < (n : Int) := by omega
        cases hq : p x with
        | true =>
          have HN : Hid (DelAt w g p cs tl i (j + 1) w2) := by
            have hxx := HX.out
            refine ⟨M ++ [x], ?_, GQ, ?_, ?_⟩
            · rw [take_succ_filter hxx, hq]
              have e : (cs.take j).filter (fun x => !p x) ++ (M ++ cs.drop j) = (cs.take j).filter (fun x => !p x) ++ (if true = true then [] else [x]) ++ (M ++ [x] ++ cs.drop (j + 1)) := by
                obtain ⟨hl, rfl⟩ := List.getElem?_eq_some_iff.1 hxx
                rw [List.drop_eq_getElem_cons hl]; simp
              rw [← e]; exact RQ
            · rw [take_succ_filter hxx, hq]; simpa using Q3.out
            · have := Q4.out; simp; omega
          have HQ2 := hid hq
          clear RQ GQ hy hq hb
          go_wp2_with fail
          go_roundw
          case measure => simp [intOf] <;> omega
          case rel => exact ⟨i, j + 1, by first | rfl | go_num, by go_num, by omega, by omega, HN⟩
        | false =>
          have HN : Hid (DelAt w g p cs tl (i + 1) (j + 1) ((w2.setCell ⟨g, i * 2, none⟩ (.int .u64 x.1)).setCell ⟨g, i * 2 + 1, none⟩ (.int .i64 x.2))) := by
            have hxx := HX.out
            have hq3 := Q3.out
            have hq4 := Q4.out
            have RP := RQ.put (i := i) (by simp; omega) x
            cases M with
            | nil => simp at hq4; omega
            | cons m M =>
              have e : ((cs.take j).filter (fun x => !p x) ++ (m :: M ++ cs.drop j)).set i x = (cs.take j).filter (fun x => !p x) ++ (if false = true then [] else [x]) ++ (M ++ [x] ++ cs.drop (j + 1)) := by
                obtain ⟨hl, e0⟩ := List.getElem?_eq_some_iff.1 hxx
                rw [List.drop_eq_getElem_cons hl, e0, ← hq3, List.set_append_right _ _ (by omega)]; simp
              rw [e] at RP
              refine ⟨M ++ [x], ?_, only_setCell (only_setCell GQ (p := ⟨g, i * 2, none⟩) (.inl rfl) _) (p := ⟨g, i * 2 + 1, none⟩) (.inl rfl) _, ?_, ?_⟩
              · rw [take_succ_filter hxx, hq]; exact RP
              · rw [take_succ_filter hxx, hq]; simp; omega
              · simp at hq4 ⊢; omega
          have HQ2 := hid hq
          clear RQ GQ hy hq hb
          go_wp2_with fail
          go_roundw
          case measure => simp [intOf] <;> omega
          case rel => exact ⟨i + 1, j + 1, by go_num, by go_num, by omega, by omega, HN⟩
      · have hltz : ¬ (j : Int) < (n : Int) := by omega
        obtain ⟨M, q1, q2, q3, q4⟩ := HA.out
        have hj : j = n := by omega
        have hln := HL.out
        have et : cs.take j = cs := List.take_of_length_le (by omega)
        have ed : cs.drop j = [] := List.drop_eq_nil_of_le (by omega)
        rw [et, ed, List.append_nil] at q1
        rw [et] at q3
        have hMl : M.length = n - i := by omega
        have hcl := fun ty => run_clear_cats q1 (cap - i) (by omega) ty
        rw [q3, hMl] at hcl
        have hz0 : (0 : Int) ≤ (i : Int) := by omega
        have hz1 : (i : Int) ≤ (n : Int) := by omega
        have hz2 : (i : Int) ≤ (cap : Int) := by omega
        have hz3 : (n : Int) ≤ (cap : Int) := by omega
        have hz4 : ¬ cap = i := by omega
        have HF := hid q3
        have HR2 : Shrunk w g cs (cs.filter (fun x => !p x)) tl (wr.setCells g (i * 2) (flat (List.replicate (n - i) (0, 0)))) := by
          have h := Row.putMany (List.replicate M.length (0, 0)) _ _ _ q1 (by simp)
          rw [q3, hMl] at h
          refine ⟨flat (List.replicate (n - i) (0, 0)) ++ tl, ?_, ?_, only_setCells _ _ _ q2⟩
          · unfold Row at h ⊢
            have e : M.drop (List.replicate (n - i) ((0 : Int), (0 : Int))).length = [] := List.drop_eq_nil_of_le (by simp; omega)
            rw [e, List.append_nil, flat_append, List.append_assoc] at h
            exact h
          · simp only [List.length_append, flat_length, List.length_replicate]; omega
        clear q1 q2 q3 q4 et ed HA hMl hj
        go_wp2_with fail
        go_ret
        exact ⟨by rw [HF.out]; rfl, HR2⟩

end Go.Proofs.Ytndohmimcbmhdaa
