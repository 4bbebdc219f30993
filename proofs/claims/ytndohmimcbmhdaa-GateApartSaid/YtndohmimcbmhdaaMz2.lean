/- What the arguments hold: categories, labels, two labels. -/
import Derived.Test.YtndohmimcbmhdaaMz0
import Derived.Test.YtndohmimcbmhdaaMz1
import Derived.Test.YtndohmimcbmhdaaRows
import Derived.Deep.Slices
import Derived.Lib.SmallJoins
import Derived.SizedLaws
import Derived.BigQuiet
set_option linter.unusedVariables false
set_option linter.unusedSimpArgs false
namespace Go.Proofs.Ytndohmimcbmhdaa
open Go.RowKit Go.ChangeShapes Go.WideShapes Go.Deep
set_option maxRecDepth 100000

theorem cellsOf26 : Try.prog.cellsOf 26 = 2 := by kernel_rfl
theorem cellsOf24 : Try.prog.cellsOf 24 = 1 := by kernel_rfl
theorem cellsOf3 : Try.prog.cellsOf 3 = 1 := by kernel_rfl
theorem cellsOf23 : Try.prog.cellsOf 23 = 1 := by kernel_rfl
theorem cellsOf32 : Try.prog.cellsOf 32 = 2 := by kernel_rfl
theorem cellsOf43 : Try.prog.cellsOf 43 = 4 := by kernel_rfl
theorem bytesOf32 : Try.prog.bytesOf 32 = 16 := by kernel_rfl

theorem cell_lt {w : World} {a : Addr} {v : Value} (h : w.cell? a = some v) : a.block < w.heap.size := by
  rcases Nat.lt_or_ge a.block w.heap.size with hl | hl
  · exact hl
  · simp [World.cell?, Array.getElem?_eq_none hl] at h

/-- Each slice in it takes what the form lets in. -/
def Fits {H : Type} (t : TypeId) (d : DataW H) : Prop := ∀ n ∈ d.weights Try.prog t, n ≤ reachBytes
theorem Fits.of_all {H : Type} {ts : List TypeId} {ds : List (DataW H)} (h : (DataW.weightsEach Try.prog ts ds).all (· ≤ reachBytes) = true) {j : Nat} {t : TypeId} {d : DataW H} (ht : ts[j]? = some t) (hd : ds[j]? = some d) : Fits t d :=
  fun n hn => by simpa using List.all_eq_true.1 h n (DataW.weights_mem_each ht hd n hn)
theorem weights_mem_all {H : Type} {e : TypeId} : ∀ {ds : List (DataW H)} {d : DataW H}, d ∈ ds → ∀ n ∈ d.weights Try.prog e, n ∈ DataW.weightsAll Try.prog e ds := by
  intro ds
  induction ds with
  | nil => intro d h; cases h
  | cons x ds ih =>
    intro d h n hn
    rw [DataW.weightsAll, List.mem_append]
    rcases List.mem_cons.1 h with rfl | h
    · exact .inl hn
    · exact .inr (ih h n hn)
theorem Fits.field {H : Type} {t : TypeId} {fs : Array Field} {parts : List (DataW H)} (ht : Try.prog.underlying t = some (.struct fs)) (h : Fits t (.agg parts)) {j : Nat} {T : TypeId} {d : DataW H} (hT : (fs.toList.map (·.type))[j]? = some T) (hd : parts[j]? = some d) : Fits T d :=
  fun n hn => h n (by rw [DataW.weights, ht]; exact DataW.weights_mem_each hT hd n hn)
theorem Fits.elem {H : Type} {t e : TypeId} {m : Nat} {parts : List (DataW H)} (ht : Try.prog.underlying t = some (.array m e)) (h : Fits t (.agg parts)) {d : DataW H} (hd : d ∈ parts) : Fits e d :=
  fun n hn => h n (by rw [DataW.weights, ht]; exact weights_mem_all hd n hn)
theorem Fits.slice {H : Type} {t e : TypeId} {elems spare : List (DataW H)} (ht : Try.prog.underlying t = some (.slice e)) (h : Fits t (.slice elems spare)) : (elems.length + spare.length) * Try.prog.bytesOf e ≤ reachBytes :=
  h _ (by rw [DataW.weights, ht]; exact List.mem_cons_self)

theorem bulk_one {H : Type} (d : DataW H) : 1 ≤ Rows.uptoBulk d := by
  cases d with
  | lit l => cases l <;> simp [Rows.uptoBulk]
  | _ => simp [Rows.uptoBulk]
theorem bulk_part {H : Type} {d : DataW H} {l : List (DataW H)} (h : d ∈ l) : Rows.uptoBulk d ≤ Rows.uptoBulkAll l := by
  induction l with
  | nil => cases h
  | cons x r ih =>
    simp only [Rows.uptoBulkAll]
    rcases List.mem_cons.1 h with e | e
    · subst e; omega
    · have := ih e; omega
theorem bulk_length {H : Type} (l : List (DataW H)) : l.length ≤ Rows.uptoBulkAll l := by
  induction l with
  | nil => simp [Rows.uptoBulkAll]
  | cons x r ih => have := bulk_one x; simp only [Rows.uptoBulkAll, List.length_cons]; omega
theorem bulk_slice {H : Type} (elems spare : List (DataW H)) : elems.length + spare.length + 1 ≤ Rows.uptoBulk (.slice elems spare) := by
  have h1 := bulk_length elems
  have h2 := bulk_length spare
  simp only [Rows.uptoBulk]
  omega
theorem bulk_field {H : Type} {parts : List (DataW H)} {d : DataW H} {j : Nat} (h : parts[j]? = some d) : Rows.uptoBulk d ≤ Rows.uptoBulk (.agg parts) := by
  have := bulk_part (List.mem_of_getElem? h)
  simp only [Rows.uptoBulk]
  omega
theorem bulk_two {H : Type} (a b : DataW H) (r : List (DataW H)) : Rows.uptoBulk a + Rows.uptoBulk b ≤ Rows.uptoBulkAll (a :: b :: r) := by simp only [Rows.uptoBulkAll]; omega
theorem bulk_at2 {H : Type} {l : List (DataW H)} {a b : DataW H} (h0 : l[0]? = some a) (h1 : l[1]? = some b) : Rows.uptoBulk a + Rows.uptoBulk b ≤ Rows.uptoBulkAll l := by
  match l, h0, h1 with
  | p :: q :: r, h0, h1 =>
    simp only [List.getElem?_cons_zero, List.getElem?_cons_succ, Option.some.injEq] at h0 h1
    subst h0 h1
    exact bulk_two p q r
theorem small_of {H : Type} {ds : List (DataW H)} (h : Rows.uptoSmall H ds = true) : Rows.uptoBulkAll ds ≤ 1048576 := of_decide_eq_true h

section
variable {H : Type} {enc : TypeId × Value → H} {w : World} {base : Nat} {spare : Nat → Bool} {held : Bool}
theorem got {α : Type} {xs : List α} {n i : Nat} {o : Option α} (hl : xs.length = n) (hi : i < n) (h : o = xs[i]?) : ∃ y, o = some y ∧ xs[i]? = some y := ⟨xs[i], by rw [h]; exact List.getElem?_eq_getElem (by omega), List.getElem?_eq_getElem (by omega)⟩
theorem fld {fs : Array Field} {xs : List (DataW H × List MemPlace)} {cs : List Value} {n : Nat} (hf : ∀ (i : Nat) (f : Field), fs[i]? = some f → DataW.trod enc Try.prog w base spare held n f.type ((cs.drop f.offset).take (Try.prog.cellsOf f.type)) = xs[i]?) (hl : xs.length = fs.size)
    (i T off k : Nat) (hT : fs[i]?.map (fun f => (f.type, f.offset)) = some (T, off)) (hk : Try.prog.cellsOf T = k) : ∃ y, DataW.trod enc Try.prog w base spare held n T ((cs.drop off).take k) = some y ∧ (xs.map (·.1))[i]? = some y.1 := by
  cases h : fs[i]? with
  | none => rw [h] at hT; cases hT
  | some f =>
    rw [h] at hT
    simp only [Option.map_some, Option.some.injEq, Prod.mk.injEq] at hT
    obtain ⟨rfl, rfl⟩ := hT
    subst hk
    have hi : i < fs.size := (Array.getElem?_eq_some_iff.1 h).1
    have hx := List.getElem?_eq_getElem (l := xs) (i := i) (by omega)
    exact ⟨_, (hf i f h).trans hx, by rw [List.getElem?_map, hx]; rfl⟩

/-- A category's cells. -/
theorem cat_of_trod {fuel : Nat} {cs : List Value} {x : DataW H × List MemPlace} (h : DataW.trod enc Try.prog w base spare held fuel 32 cs = some x) :
    ∃ a b : Int, cs = [.int .u64 a, .int .i64 b] ∧ (0 ≤ a ∧ a ≤ 18446744073709551615) ∧ (-9223372036854775808 ≤ b ∧ b ≤ 9223372036854775807) := by
  obtain ⟨xs, n, _, _, hl, hlen, hf⟩ := DataW.trod_struct Try.underlying32 h
  rw [cellsOf32] at hl
  match cs, hl with
  | [c0, c1], _ =>
    obtain ⟨y0, g0, _⟩ : ∃ y, DataW.trod enc Try.prog w base spare held n 24 [c0] = some y ∧ _ := fld hf hlen 0 24 0 1 rfl cellsOf24
    obtain ⟨y1, g1, _⟩ : ∃ y, DataW.trod enc Try.prog w base spare held n 3 [c1] = some y ∧ _ := fld hf hlen 1 3 1 1 rfl cellsOf3
    obtain ⟨a, k0, _, w0⟩ := DataW.trod_int Try.underlying24 g0
    obtain ⟨b, k1, _, w1⟩ := DataW.trod_int Try.underlying3 g1
    simp only [List.cons.injEq, and_true] at k0 k1
    subst k0 k1
    exact ⟨a, b, rfl, by simpa [Lit.wf, IntKind.min, IntKind.max, IntKind.signed, IntKind.bits] using w0, by simpa [Lit.wf, IntKind.min, IntKind.max, IntKind.signed, IntKind.bits] using w1⟩

theorem cats_of_trod {fuel : Nat} {cs : List Value} {x : DataW H × List MemPlace} (h : DataW.trod enc Try.prog w base spare held fuel 23 cs = some x) :
    ∃ A n c l, cs = [.slice A n c] ∧ CatsAt w w.heap.size A n c l ∧ (Fits 23 x.1 → n ≤ 8796093022207) ∧ n + 1 ≤ Rows.uptoBulk x.1 := by
  rcases open_slice Try.underlying23 h with ⟨rfl, rfl⟩ | ⟨a, len, cap, m, n, D, Pl, rfl, hb, hl, hm, hmm, hx, hi⟩
  · exact ⟨none, 0, 0, [], rfl, CatsAt.nil_, fun _ => by omega, bulk_one _⟩
  · have hle : len ≤ m := by rw [hmm]; split <;> omega
    have hch : ∀ i, i < len → ∃ t : Int × Int, w.cell? ((a.add (i * 2)).add 0) = some (.int .u64 t.1) ∧ w.cell? ((a.add (i * 2)).add 1) = some (.int .i64 t.2) := by
      intro i hil
      obtain ⟨cs', hc, ht⟩ := hi i (by omega)
      rw [cellsOf32] at hc
      obtain ⟨p, q, rfl, _, _⟩ := cat_of_trod ht
      obtain ⟨_, hcl, hat⟩ := World.cells?_some hc
      exact ⟨(p, q), hat 0 (by omega), hat 1 (by omega)⟩
    refine ⟨some a, len, cap, (List.range len).map (fun i => if hh : i < len then (hch i hh).choose else (0, 0)), rfl, ⟨by simp, hl, hm, fun hn => ?_⟩, fun hF => ?_, ?_⟩
    · have h0 := (hch 0 hn).choose_spec.1
      have e0 : (a.add (0 * 2)).add 0 = a := by simp [Addr.add]
      replace h0 := (congrArg w.cell? e0).symm.trans h0
      have hsp := World.cell?_spot h0
      obtain ⟨b, off, sp⟩ := a
      simp only at hsp
      subst hsp
      refine ⟨b, off, rfl, cell_lt h0, fun i t ht => ?_⟩
      have hil : i < len := by
        have := (List.getElem?_eq_some_iff.1 ht).1
        simpa using this
      have et : t = (hch i hil).choose := by
        simp [hil] at ht
        exact ht.symm
      subst et
      have q := (hch i hil).choose_spec
      generalize (hch i hil).choose = t at q ⊢
      have ea : ((⟨b, off, none⟩ : Addr).add (i * 2)).add 0 = ⟨b, off + i * 2, none⟩ := by
        unfold Addr.add
        by_cases h1 : i * 2 = 0 <;> simp [h1]
      have eb : ((⟨b, off, none⟩ : Addr).add (i * 2)).add 1 = ⟨b, off + i * 2 + 1, none⟩ := by
        unfold Addr.add
        by_cases h1 : i * 2 = 0 <;> simp [h1]
      rw [ea, eb] at q
      exact q
    · rw [hx] at hF
      have := hF.slice Try.underlying23
      rw [bytesOf32] at this
      simp only [List.length_map, List.length_range, reachBytes] at this
      omega
    · rw [hx]
      have := bulk_slice ((List.range len).map D) ((List.range (m - len)).map fun j => D (len + j))
      simp only [List.length_map, List.length_range] at this
      simp only
      omega

theorem label_of_trod {fuel : Nat} {cs : List Value} {x : DataW H × List MemPlace} (h : DataW.trod enc Try.prog w base spare held fuel 26 cs = some x) :
    ∃ d A n c l, cs = [.int .i64 d, .slice A n c] ∧ CatsAt w w.heap.size A n c l ∧ (Fits 26 x.1 → n ≤ 8796093022207) ∧ n + 2 ≤ Rows.uptoBulk x.1 := by
  obtain ⟨xs, n, _, hx, hl, hlen, hf⟩ := DataW.trod_struct Try.underlying26 h
  rw [cellsOf26] at hl
  match cs, hl with
  | [c0, c1], _ =>
    obtain ⟨y0, g0, m0⟩ : ∃ y, DataW.trod enc Try.prog w base spare held n 3 [c0] = some y ∧ _ := fld hf hlen 0 3 0 1 rfl cellsOf3
    obtain ⟨y1, g1, m1⟩ : ∃ y, DataW.trod enc Try.prog w base spare held n 23 [c1] = some y ∧ _ := fld hf hlen 1 23 1 1 rfl cellsOf23
    obtain ⟨d, k0, _, _⟩ := DataW.trod_int Try.underlying3 g0
    obtain ⟨A, n', c, l, k1, hT, hF, hb⟩ := cats_of_trod g1
    simp only [List.cons.injEq, and_true] at k0 k1
    subst k0 k1
    subst hx
    refine ⟨d, A, n', c, l, rfl, hT, fun hh => hF (hh.field Try.underlying26 (j := 1) rfl m1), ?_⟩
    have := bulk_part (List.mem_of_getElem? m1)
    simp only [Rows.uptoBulk]
    omega

theorem who_of_trod {fuel : Nat} {cs : List Value} {x : DataW H × List MemPlace} (h : DataW.trod enc Try.prog w base spare held fuel 43 cs = some x) :
    ∃ d A n c l d' A' n' c' l', cs = [.int .i64 d, .slice A n c, .int .i64 d', .slice A' n' c'] ∧ CatsAt w w.heap.size A n c l ∧ CatsAt w w.heap.size A' n' c' l' ∧ (Fits 43 x.1 → n ≤ 8796093022207 ∧ n' ≤ 8796093022207) ∧ n + n' + 4 ≤ Rows.uptoBulk x.1 := by
  obtain ⟨xs, n, _, hx, hl, hlen, hf⟩ := DataW.trod_struct Try.underlying43 h
  rw [cellsOf43] at hl
  match cs, hl with
  | [c0, c1, c2, c3], _ =>
    obtain ⟨y0, g0, m0⟩ : ∃ y, DataW.trod enc Try.prog w base spare held n 26 [c0, c1] = some y ∧ _ := fld hf hlen 0 26 0 2 rfl cellsOf26
    obtain ⟨y1, g1, m1⟩ : ∃ y, DataW.trod enc Try.prog w base spare held n 26 [c2, c3] = some y ∧ _ := fld hf hlen 1 26 2 2 rfl cellsOf26
    obtain ⟨d, A, n1, c, l, k0, hT, hF, hb⟩ := label_of_trod g0
    obtain ⟨d', A', n2, c', l', k1, hT', hF', hb'⟩ := label_of_trod g1
    simp only [List.cons.injEq, and_true] at k0 k1
    obtain ⟨rfl, rfl⟩ := k0
    obtain ⟨rfl, rfl⟩ := k1
    subst hx
    refine ⟨d, A, n1, c, l, d', A', n2, c', l', rfl, hT, hT', fun hh => ⟨hF (hh.field Try.underlying43 (j := 0) rfl m0), hF' (hh.field Try.underlying43 (j := 1) rfl m1)⟩, ?_⟩
    have := bulk_at2 m0 m1
    simp only [Rows.uptoBulk]
    omega
end

section
variable {H : Type} {enc : TypeId × Value → H} {W : World} {base b0 : Nat} {spare : Nat → Bool} {held : Bool} {r : Reach} {v : Value} {d : DataW H} {p : List MemPlace}
theorem agg_of {t : TypeId} {fs : Array Field} {k : Nat} (ht : Try.prog.underlying t = some (.struct fs)) (hv : Value.okWide Try.prog W r b0 t v) {l : List Value} (h : v.cells.toList = l) : v = .agg l.toArray := by
  obtain ⟨cs, rfl, _⟩ := okWide_struct ht hv
  subst h
  simp [Value.cells]
theorem open_label (hv : Value.okWide Try.prog W r b0 26 v) (h : DataW.Trod enc Try.prog W base spare held 26 v d p) :
    ∃ dd A n c l, v = .agg #[.int .i64 dd, .slice A n c] ∧ CatsAt W W.heap.size A n c l ∧ (Fits 26 d → n ≤ 8796093022207) ∧ n + 2 ≤ Rows.uptoBulk d := by
  obtain ⟨fu, h⟩ := h
  obtain ⟨dd, A, n, c, l, e, hT, hF, hb⟩ := label_of_trod h
  exact ⟨dd, A, n, c, l, agg_of (k := 0) Try.underlying26 hv e, hT, hF, hb⟩
theorem open_who (hv : Value.okWide Try.prog W r b0 43 v) (h : DataW.Trod enc Try.prog W base spare held 43 v d p) :
    ∃ d1 A n c l d' A' n' c' l', v = .agg #[.int .i64 d1, .slice A n c, .int .i64 d', .slice A' n' c'] ∧ CatsAt W W.heap.size A n c l ∧ CatsAt W W.heap.size A' n' c' l' ∧ (Fits 43 d → n ≤ 8796093022207 ∧ n' ≤ 8796093022207) ∧ n + n' + 4 ≤ Rows.uptoBulk d := by
  obtain ⟨fu, h⟩ := h
  obtain ⟨d1, A, n, c, l, d', A', n', c', l', e, h1, h2, h3, h4⟩ := who_of_trod h
  exact ⟨d1, A, n, c, l, d', A', n', c', l', agg_of (k := 0) Try.underlying43 hv e, h1, h2, h3, h4⟩
theorem open_cat (hv : Value.okWide Try.prog W r b0 32 v) (h : DataW.Trod enc Try.prog W base spare held 32 v d p) :
    ∃ a b : Int, v = .agg #[.int .u64 a, .int .i64 b] ∧ (0 ≤ a ∧ a ≤ 18446744073709551615) ∧ (-9223372036854775808 ≤ b ∧ b ≤ 9223372036854775807) := by
  obtain ⟨fu, h⟩ := h
  obtain ⟨a, b, e, h1, h2⟩ := cat_of_trod h
  exact ⟨a, b, agg_of (k := 0) Try.underlying32 hv e, h1, h2⟩
theorem open_cats (hv : Value.okWide Try.prog W r b0 23 v) (h : DataW.Trod enc Try.prog W base spare held 23 v d p) :
    ∃ A n c l, v = .slice A n c ∧ CatsAt W W.heap.size A n c l ∧ (Fits 23 d → n ≤ 8796093022207) ∧ n + 1 ≤ Rows.uptoBulk d := by
  obtain ⟨A', n', c', rfl⟩ := okWide_slice Try.underlying23 hv
  obtain ⟨fu, h⟩ := h
  obtain ⟨A, n, c, l, e, hT, hF, hb⟩ := cats_of_trod h
  obtain ⟨rfl, rfl, rfl⟩ : A' = A ∧ n' = n ∧ c' = c := by simpa [Value.cells] using e
  exact ⟨A', n', c', l, rfl, hT, hF, hb⟩
end
end Go.Proofs.Ytndohmimcbmhdaa

/- What the library strikes out of a row of categories in place: those that meet a test; neighbours of one name. -/
set_option linter.unusedVariables false
set_option linter.unusedSimpArgs false
namespace Go.Proofs.Ytndohmimcbmhdaa
open Go.RowKit Go.Sort

/-- .. a test that is asked while block g is being written. -/
def TestOver (fn : Nat) (cb : Array Value) (p : Int × Int → Bool) (w : World) (g : Nat) : Prop :=
  ∀ W, w.grownBy W (some g) → ∀ x : Int × Int, Calls Try.prog fn (#[.agg #[.int .u64 x.1, .int .i64 x.2]] ++ cb) W fun e w' => e = .returned (.bool (p x)) ∧ Below W.heap.size W w'
theorem TestOver.ok {fn : Nat} {cb : Array Value} {p : Int × Int → Bool} {w : World} {g : Nat} (h : TestOver fn cb p w g) : TestOk fn cb p w :=
  fun W hW x => (h W (only_of_below hW _) x).mono fun _ _ ⟨he, hb⟩ => ⟨he, hW.trans (hb.mono hW.size)⟩

theorem zeros_flat (n : Nat) : (Builtin.zeroCells (Value.agg #[.int .u64 0, .int .i64 0]).cells n).toList = flat (List.replicate n (0, 0)) := by
  apply List.ext_getElem?
  intro i
  by_cases hi : i < n * 2
  · have h1 : (flat (List.replicate n ((0 : Int), (0 : Int))))[i]? = some (if i % 2 = 0 then .int .u64 0 else .int .i64 0) := by
      have hx : (List.replicate n ((0 : Int), (0 : Int)))[i / 2]? = some (0, 0) := by rw [List.getElem?_replicate, if_pos (by omega)]
      by_cases hp : i % 2 = 0
      · have e : i = i / 2 * 2 := by omega
        have := flat_get0 _ _ _ hx
        rw [← e] at this
        rw [this, if_pos hp]
      · have e : i = i / 2 * 2 + 1 := by omega
        have := flat_get1 _ _ _ hx
        rw [← e] at this
        rw [this, if_neg hp]
    rw [h1]
    have hsz : (Value.agg #[.int .u64 0, .int .i64 0]).cells.size = 2 := rfl
    simp only [Builtin.zeroCells, hsz, Array.toList_map, Array.toList_range, List.getElem?_map, List.getElem?_range hi, Option.map_some]
    congr 1
    by_cases hp : i % 2 = 0
    · rw [if_pos hp, hp]; rfl
    · rw [if_neg hp, show i % 2 = 1 by omega]; rfl
  · rw [List.getElem?_eq_none (by simp [Builtin.zeroCells, Value.cells]; omega), List.getElem?_eq_none (by simp; omega)]

/-- A run of stores into a row. -/
theorem Row.putMany {g : Nat} {tl : List Value} : ∀ (Z : List (Int × Int)) (w : World) (A R : List (Int × Int)), Row w g (A ++ R) tl → Z.length ≤ R.length →
    Row (w.setCells g (A.length * 2) (flat Z)) g (A ++ Z ++ R.drop Z.length) tl := by
  intro Z
  induction Z with
  | nil => intro w A R h _; simpa [World.setCells] using h
  | cons z Z ih =>
    intro w A R h hl
    cases R with
    | nil => simp at hl
    | cons r R =>
      simp only [flat_cons, World.setCells]
      have h1 := h.put (i := A.length) (by simp) z
      have e : (A ++ r :: R).set A.length z = (A ++ [z]) ++ R := by rw [List.set_append_right _ _ (by omega)]; simp
      rw [e] at h1
      have h2 := ih _ (A ++ [z]) R h1 (by simp at hl; omega)
      have e2 : (A ++ [z]).length * 2 = A.length * 2 + 1 + 1 := by simp; omega
      rw [e2] at h2
      simpa using h2
theorem only_setCells {a : World} {g : Nat} : ∀ (vs : List Value) (o : Nat) (w : World), a.grownBy w (some g) → a.grownBy (w.setCells g o vs) (some g) := by
  intro vs
  induction vs with
  | nil => intro o w h; exact h
  | cons v vs ih => intro o w h; exact ih _ _ (only_setCell h (.inl rfl) v)

theorem run_clear_cats {w : World} {g : Nat} {A R : List (Int × Int)} {tl : List Value} (h : Row w g (A ++ R) tl) (cap : Nat) (hR : 0 < R.length) (ty : TypeId) :
    (Builtin.clear_ #[23] ty #[.slice (some ⟨g, A.length * 2, none⟩) R.length cap]).run Try.prog w = .ok (.tuple #[]) (w.setCells g (A.length * 2) (flat (List.replicate R.length (0, 0)))) := by
  have hv : (zeroValue 32).run Try.prog w = .ok (.agg #[.int .u64 0, .int .i64 0]) w := by kernel_rfl
  have hst := run_storeCells_cells (P := Try.prog) g (A.length * 2) (flat (List.replicate R.length ((0 : Int), (0 : Int)))) 0 w
    (fun j hj => by
      rw [Blk.cell h]
      have : A.length * 2 + 0 + j < (flat (A ++ R) ++ tl).length := by simp at hj ⊢; omega
      simp only [List.getElem?_toArray, List.getElem?_eq_getElem this, Option.isSome_some])
    (fun j hj => h.free _) (flat_one _)
  simp only [Nat.add_zero] at hst
  obtain ⟨m, hm⟩ : ∃ m, R.length = m + 1 := ⟨R.length - 1, by omega⟩
  rw [hm] at hst ⊢
  simp [Builtin.clear_, run_underlying Try.underlying23, hv, zeros_flat, hst]

/-- Of the row that held cs the first ones hold F now; nothing else has turned. -/
def Shrunk (w : World) (g : Nat) (cs F : List (Int × Int)) (tl : List Value) (w' : World) : Prop := ∃ tl', Row w' g F tl' ∧ (flat F ++ tl').length = (flat cs ++ tl).length ∧ w.grownBy w' (some g)

/-- Where the striking out stands: i are kept of the first j. -/
def DelAt (w : World) (g : Nat) (p : Int × Int → Bool) (cs : List (Int × Int)) (tl : List Value) (i j : Nat) (wr : World) : Prop :=
  ∃ M, Row wr g ((cs.take j).filter (fun x => !p x) ++ (M ++ cs.drop j)) tl ∧ w.grownBy wr (some g) ∧ ((cs.take j).filter (fun x => !p x)).length = i ∧ M.length + i = j

theorem take_succ_filter {p : Int × Int → Bool} {cs : List (Int × Int)} {j : Nat} {x : Int × Int} (hx : cs[j]? = some x) : (cs.take (j + 1)).filter (fun x => !p x) = (cs.take j).filter (fun x => !p x) ++ (if p x then [] else [x]) := by
  rw [List.take_add_one, hx, List.filter_append]
  cases h : p x <;> simp [h]

set_option maxRecDepth 100000 in
set_option maxHeartbeats 4000000 in
theorem delete98 (w : World) (g n cap : Nat) (cs : List (Int × Int)) (tl : List Value) (fn : Nat) (cb : Array Value) (p : Int × Int → Bool) (hr : Row w g cs tl) (hlen : cs.length = n) (hc : n ≤ cap) (hm : cap ≤ maxLen) (ht : TestOver fn cb p w g)
    (eg : ∀ args w, (callFunc fn args).run Try.prog w = .ok (.enter fn args) w) :
    Calls Try.prog 98 #[.slice (some ⟨g, 0, none⟩) n cap, .func (.func fn) #[] cb] w fun e w' => e = .returned (.slice (some ⟨g, 0, none⟩) (cs.filter (fun x => !p x)).length cap) ∧ Shrunk w g cs (cs.filter (fun x => !p x)) tl w' := by
  unfold maxLen at hm
  have hcats : CatsAt w w.heap.size (some ⟨g, 0, none⟩) n cap cs := by have := CatsAt.of_row hr (c := cap) (by omega) (by unfold maxLen; omega); rwa [hlen] at this
  have HI := hid (indexFunc150 w _ _ _ cs fn cb p hcats ht.ok eg)
  have HT : Hid (TestOver fn cb p w g) := ht
  clear hcats
  cases hf : cs.findIdx? p with
  | none =>
    have hno := List.findIdx?_eq_none_iff.1 hf
    have hfl : cs.filter (fun x => !p x) = cs := by
      rw [List.filter_eq_self]; intro x hx; rw [hno x hx]; rfl
    have HP : Hid (∀ w', Below w.heap.size w w' → Shrunk w g cs (cs.filter (fun x => !p x)) tl w') := by
      intro w' hb
      rw [hfl]
      exact ⟨tl, hr.below hb hr.lt, rfl, only_of_below hb _⟩
    have HL : Hid (((cs.filter (fun x => !p x)).length : Nat) = n) := by show _ = _; rw [hfl, hlen]
    have hi : idxOf p cs = -1 := by unfold idxOf; rw [hf]
    rw [hi] at HI
    clear hf hno hfl hi hr hlen ht
    generalize cs.filter (fun x => !p x) = F at *
    go_enter Try.func98, Try.ntmps98
    go_wp2_with fail
    refine HI.out.mono ?_
    rintro e w1 ⟨rfl, hb⟩
    have HQ := HP.out w1 hb
    clear hb HI HP
    go_wp2_with fail
    go_ret
    exact ⟨by rw [HL.out]; rfl, HQ⟩
  | some k =>
    obtain ⟨hk, hpk, hnk⟩ := List.findIdx?_eq_some_iff_getElem.1 hf
    have hi : idxOf p cs = (k : Int) := by unfold idxOf; rw [hf]
    rw [hi] at HI
    have hxk := List.getElem?_eq_getElem hk
    have hpre : (cs.take k).filter (fun x => !p x) = cs.take k := by
      rw [List.filter_eq_self]
      intro x hx
      obtain ⟨j, hj, rfl⟩ := List.getElem_of_mem hx
      rw [List.length_take] at hj
      rw [List.getElem_take]
      have := hnk j (by omega)
      simp at this; rw [this]; rfl
    have HD : Hid (∀ w', Below w.heap.size w w' → DelAt w g p cs tl k (k + 1) w') := by
      intro w' hb
      refine ⟨[cs[k]], ?_, only_of_below hb _, ?_, ?_⟩
      · rw [take_succ_filter hxk, hpk, hpre]
        have e : cs.take k ++ (if true = true then [] else [cs[k]]) ++ ([cs[k]] ++ cs.drop (k + 1)) = cs := by
          simp
        rw [e]
        exact hr.below hb hr.lt
      · rw [take_succ_filter hxk, hpk, hpre]; simp; omega
      · simp; omega
    have hkn : k < n := by omega
    have HL := hid hlen
    have hkne : ((k : Int) == -1) = false := by rw [beq_eq_false_iff_ne]; omega
    have hg := hr.lt
    clear hf hk hpk hnk hi hxk hpre hr hlen ht
    go_enter Try.func98, Try.ntmps98
    go_wp2_with fail
    refine HI.out.mono ?_
    rintro e w1 ⟨rfl, hb⟩
    have HQ : Hid (DelAt w g p cs tl k (k + 1) w1) := HD.out w1 hb
    clear hb HI HD
    go_wp2_with fail
    go_loopw [5, 6] (fun vi vj wr => ∃ i j : Nat, vi = .int .i64 i ∧ vj = .int .i64 j ∧ i < j ∧ j ≤ n ∧ Hid (DelAt w g p cs tl i j wr)) (fun _ vj _ => n - (intOf vj).toNat)
    case atStart => exact ⟨k, k + 1, rfl, by go_num, by omega, by omega, HQ⟩
    case round =>
      obtain ⟨i, j, rfl, rfl, hij, hjn, HA⟩ := hrel
      by_cases hlt : j < n
      · have hltz : (j : Int) < (n : Int) := by omega
        obtain ⟨M, q1, q2, q3, q4⟩ := HA.out
        obtain ⟨x, hx⟩ : ∃ x, cs[j]? = some x := ⟨_, List.getElem?_eq_getElem (by have := HL.out; omega)⟩
        have ejx : ((cs.take j).filter (fun x => !p x) ++ (M ++ cs.drop j))[j]? = some x := by
          rw [← List.append_assoc, List.getElem?_append_right (by simp; omega)]
          have e : j - ((cs.take j).filter (fun x => !p x) ++ M).length = 0 := by simp; omega
          rw [e, List.getElem?_drop]; simpa using hx
        have c0 := q1.cell0 ejx
        have c1 := q1.cell1 ejx
        have hcall := HT.out
        have Q1 := hid q1
        have Q2 := hid q2
        have Q3 := hid q3
        have Q4 := hid q4
        have HX := hid hx
        have hgl : g < wr.heap.size := q1.lt
        clear q1 q2 q3 q4 hx ejx hcall HA
        go_wp2_with fail
        refine (HT.out _ (only_alloc Q2.out _) x).mono ?_
        rintro e w2 ⟨rfl, hb⟩
        have RQ := (Q1.out.alloc (Obj.cells #[.int .u64 x.1, .int .i64 x.2] 32)).below hb (by simp; omega)
        have GQ := only_below (only_alloc Q2.out (Obj.cells #[.int .u64 x.1, .int .i64 x.2] 32)) hb
        have b0 : w2.cell? ⟨wr.heap.size, 0, none⟩ = some (.int .u64 x.1) := by rw [hb.cell (p := ⟨wr.heap.size, 0, none⟩) (by simp)]; simp
        have b1 : w2.cell? ⟨wr.heap.size, 1, none⟩ = some (.int .i64 x.2) := by rw [hb.cell (p := ⟨wr.heap.size, 1, none⟩) (by simp)]; simp
        obtain ⟨y, hy⟩ : ∃ y, ((cs.take j).filter (fun x => !p x) ++ (M ++ cs.drop j))[i]? = some y := ⟨_, getD_some _ (by have := Q3.out; have := Q4.out; simp; omega)⟩
        have d0 := RQ.cell0 hy
        have d1 := RQ.cell1 hy
        have f0 := RQ.free (i * 2)
        have f1 := RQ.free (i * 2 + 1)
        have hin : (i : Int) < (n : Int) := by omega
        cases hq : p x with
        | true =>
          have HN : Hid (DelAt w g p cs tl i (j + 1) w2) := by
            have hxx := HX.out
            refine ⟨M ++ [x], ?_, GQ, ?_, ?_⟩
            · rw [take_succ_filter hxx, hq]
              have e : (cs.take j).filter (fun x => !p x) ++ (M ++ cs.drop j) = (cs.take j).filter (fun x => !p x) ++ (if true = true then [] else [x]) ++ (M ++ [x] ++ cs.drop (j + 1)) := by
                obtain ⟨hl, rfl⟩ := List.getElem?_eq_some_iff.1 hxx
                rw [List.drop_eq_getElem_cons hl]; simp
              rw [← e]; exact RQ
            · rw [take_succ_filter hxx, hq]; simpa using Q3.out
            · have := Q4.out; simp; omega
          have HQ2 := hid hq
          clear RQ GQ hy hq hb
          go_wp2_with fail
          go_roundw
          case measure => simp [intOf] <;> omega
          case rel => exact ⟨i, j + 1, by first | rfl | go_num, by go_num, by omega, by omega, HN⟩
        | false =>
          have HN : Hid (DelAt w g p cs tl (i + 1) (j + 1) ((w2.setCell ⟨g, i * 2, none⟩ (.int .u64 x.1)).setCell ⟨g, i * 2 + 1, none⟩ (.int .i64 x.2))) := by
            have hxx := HX.out
            have hq3 := Q3.out
            have hq4 := Q4.out
            have RP := RQ.put (i := i) (by simp; omega) x
            cases M with
            | nil => simp at hq4; omega
            | cons m M =>
              have e : ((cs.take j).filter (fun x => !p x) ++ (m :: M ++ cs.drop j)).set i x = (cs.take j).filter (fun x => !p x) ++ (if false = true then [] else [x]) ++ (M ++ [x] ++ cs.drop (j + 1)) := by
                obtain ⟨hl, e0⟩ := List.getElem?_eq_some_iff.1 hxx
                rw [List.drop_eq_getElem_cons hl, e0, ← hq3, List.set_append_right _ _ (by omega)]; simp
              rw [e] at RP
              refine ⟨M ++ [x], ?_, only_setCell (only_setCell GQ (p := ⟨g, i * 2, none⟩) (.inl rfl) _) (p := ⟨g, i * 2 + 1, none⟩) (.inl rfl) _, ?_, ?_⟩
              · rw [take_succ_filter hxx, hq]; exact RP
              · rw [take_succ_filter hxx, hq]; simp; omega
              · simp at hq4 ⊢; omega
          have HQ2 := hid hq
          clear RQ GQ hy hq hb
          go_wp2_with fail
          go_roundw
          case measure => simp [intOf] <;> omega
          case rel => exact ⟨i + 1, j + 1, by go_num, by go_num, by omega, by omega, HN⟩
      · have hltz : ¬ (j : Int) < (n : Int) := by omega
        obtain ⟨M, q1, q2, q3, q4⟩ := HA.out
        have hj : j = n := by omega
        have hln := HL.out
        have et : cs.take j = cs := List.take_of_length_le (by omega)
        have ed : cs.drop j = [] := List.drop_eq_nil_of_le (by omega)
        rw [et, ed, List.append_nil] at q1
        rw [et] at q3
        have hMl : M.length = n - i := by omega
        have hcl := fun ty => run_clear_cats q1 (cap - i) (by omega) ty
        rw [q3, hMl] at hcl
        have hz0 : (0 : Int) ≤ (i : Int) := by omega
        have hz1 : (i : Int) ≤ (n : Int) := by omega
        have hz2 : (i : Int) ≤ (cap : Int) := by omega
        have hz3 : (n : Int) ≤ (cap : Int) := by omega
        have hz4 : ¬ cap = i := by omega
        have HF := hid q3
        have HR2 : Shrunk w g cs (cs.filter (fun x => !p x)) tl (wr.setCells g (i * 2) (flat (List.replicate (n - i) (0, 0)))) := by
          have h := Row.putMany (List.replicate M.length (0, 0)) _ _ _ q1 (by simp)
          rw [q3, hMl] at h
          refine ⟨flat (List.replicate (n - i) (0, 0)) ++ tl, ?_, ?_, only_setCells _ _ _ q2⟩
          · unfold Row at h ⊢
            have e : M.drop (List.replicate (n - i) ((0 : Int), (0 : Int))).length = [] := List.drop_eq_nil_of_le (by simp; omega)
            rw [e, List.append_nil, flat_append, List.append_assoc] at h
            exact h
          · simp only [List.length_append, flat_length, List.length_replicate]; omega
        clear q1 q2 q3 q4 et ed HA hMl hj
        go_wp2_with fail
        go_ret
        exact ⟨by rw [HF.out]; rfl, HR2⟩

end Go.Proofs.Ytndohmimcbmhdaa

/- What the library leaves of a row of categories, when of neighbours of one name the first is kept. -/
set_option linter.unusedVariables false
set_option linter.unusedSimpArgs false
namespace Go.Proofs.Ytndohmimcbmhdaa
open Go.RowKit Go.Sort

def compactFrom (x : Int × Int) : List (Int × Int) → List (Int × Int)
  | [] => []
  | y :: r => if y.1 == x.1 then compactFrom y r else y :: compactFrom y r
def compactL : List (Int × Int) → List (Int × Int)
  | [] => []
  | x :: r => x :: compactFrom x r

theorem compactFrom_snoc : ∀ (l : List (Int × Int)) (x z y : Int × Int), compactFrom z (l ++ [x, y]) = compactFrom z (l ++ [x]) ++ (if y.1 == x.1 then [] else [y]) := by
  intro l
  induction l with
  | nil =>
    intro x z y
    simp only [List.nil_append, compactFrom]
    by_cases h1 : (x.1 == z.1) = true <;> by_cases h2 : (y.1 == x.1) = true <;> simp [h1, h2]
  | cons c l ih =>
    intro x z y
    simp only [List.cons_append, compactFrom, ih]
    split <;> simp
theorem compactL_snoc (l : List (Int × Int)) (x y : Int × Int) : compactL (l ++ [x, y]) = compactL (l ++ [x]) ++ (if y.1 == x.1 then [] else [y]) := by
  cases l with
  | nil =>
    simp only [List.nil_append, compactL, compactFrom]
    by_cases h2 : (y.1 == x.1) = true <;> simp [h2]
  | cons c l => simp only [List.cons_append, compactL, compactFrom_snoc]
theorem compactL_take {cs : List (Int × Int)} {j : Nat} {x y : Int × Int} (hx : cs[j]? = some x) (hy : cs[j + 1]? = some y) : compactL (cs.take (j + 2)) = compactL (cs.take (j + 1)) ++ (if y.1 == x.1 then [] else [y]) := by
  have e1 : cs.take (j + 1) = cs.take j ++ [x] := by rw [List.take_add_one, hx]; rfl
  have e2 : cs.take (j + 2) = cs.take j ++ [x, y] := by rw [List.take_add_one, e1, hy]; simp
  rw [e1, e2, compactL_snoc]

/-- Where the second pass stands: k are kept of the first j + 1; the last of these lies in its place. -/
def ComAt (w : World) (g : Nat) (cs : List (Int × Int)) (tl : List Value) (k j : Nat) (wr : World) : Prop :=
  ∃ M, Row wr g (compactL (cs.take (j + 1)) ++ (M ++ cs.drop j)) tl ∧ w.grownBy wr (some g) ∧ (compactL (cs.take (j + 1))).length = k ∧ M.length + k = j

set_option maxRecDepth 100000 in
set_option maxHeartbeats 4000000 in
theorem compact96 (w : World) (g n cap : Nat) (cs : List (Int × Int)) (tl : List Value) (hr : Row w g cs tl) (hlen : cs.length = n) (hc : n ≤ cap) (hm : cap ≤ maxLen) :
    Calls Try.prog 96 #[.slice (some ⟨g, 0, none⟩) n cap, .func (.func 97) #[] #[]] w fun e w' => e = .returned (.slice (some ⟨g, 0, none⟩) (compactL cs).length cap) ∧ Shrunk w g cs (compactL cs) tl w' := by
  unfold maxLen at hm
  have HL := hid hlen
  have mixed : Try.prog.follows .mixedOrders = true := by kernel_rfl
  by_cases hsmall : n < 2
  · have hcc : compactL cs = cs := by
      match cs, hlen with
      | [], _ => rfl
      | [x], _ => rfl
      | x :: y :: r, h => simp at h; omega
    have HP : Shrunk w g cs (compactL cs) tl w := by rw [hcc]; exact ⟨tl, hr, rfl, only_refl _ _⟩
    have HN : Hid ((compactL cs).length = n) := by show _ = _; rw [hcc, hlen]
    have hz : (n : Int) < 2 := by omega
    clear hcc hr hlen
    generalize compactL cs = F at *
    go_enter Try.func96, Try.ntmps96
    go_wp2_with fail
    go_ret
    exact ⟨by rw [HN.out]; rfl, HP⟩
  · have hz : ¬ (n : Int) < 2 := by omega
    have hr0 := hid hr
    have HA0 : Hid (compactL (cs.take 1) = cs.take 1) := by
      show _ = _
      cases cs with
      | nil => rfl
      | cons x r => rfl
    clear hr hlen
    go_enter Try.func96, Try.ntmps96
    go_wp2_with fail
    go_loopw [5] (fun vk wr => ∃ k : Nat, vk = .int .i64 k ∧ 1 ≤ k ∧ k ≤ n ∧ Hid (compactL (cs.take k) = cs.take k) ∧ Hid (Row wr g cs tl) ∧ Hid (w.grownBy wr (some g))) (fun vk _ => n - (intOf vk).toNat)
    case atStart => exact ⟨1, rfl, by omega, by omega, HA0, hr0, only_refl _ _⟩
    case round =>
      obtain ⟨k, rfl, hk1, hkn, HC, HR, HG⟩ := hrel
      by_cases hlt : k < n
      · have hltz : (k : Int) < (n : Int) := by omega
        obtain ⟨kp, rfl⟩ : ∃ kp, k = kp + 1 := ⟨k - 1, by omega⟩
        obtain ⟨x, hx⟩ : ∃ x, cs[kp]? = some x := ⟨_, List.getElem?_eq_getElem (by have := HL.out; omega)⟩
        obtain ⟨y, hy⟩ : ∃ y, cs[kp + 1]? = some y := ⟨_, List.getElem?_eq_getElem (by have := HL.out; omega)⟩
        have c0 : ∀ m os, (grow (wr.drewN m) os).cell? ⟨g, kp * 2, none⟩ = some (.int .u64 x.1) := fun m os => (HR.out.grow m os).cell0 hx
        have c1 : ∀ m os, (grow (wr.drewN m) os).cell? ⟨g, kp * 2 + 1, none⟩ = some (.int .i64 x.2) := fun m os => (HR.out.grow m os).cell1 hx
        have c2 : ∀ m os, (grow (wr.drewN m) os).cell? ⟨g, (kp + 1) * 2, none⟩ = some (.int .u64 y.1) := fun m os => (HR.out.grow m os).cell0 hy
        have c3 : ∀ m os, (grow (wr.drewN m) os).cell? ⟨g, (kp + 1) * 2 + 1, none⟩ = some (.int .i64 y.2) := fun m os => (HR.out.grow m os).cell1 hy
        have hz1 : (kp : Int) + 1 < (n : Int) := by omega
        have hz2 : (0 : Int) ≤ (kp : Int) + 1 := by omega
        have hz3 : (kp : Int) < (n : Int) := by omega
        have hwp : IntKind.i64.wrap (kp : Int) = (kp : Int) := by rw [IntKind.wrap_i64]; omega
        have e2 : ((kp : Int) + 1).toNat = kp + 1 := by omega
        have HX := hid hx
        have HY := hid hy
        clear hx hy
        cases hq : (y.1 == x.1) with
        | false =>
          have HQ := hid hq
          go_wp2_with fail
          go_quiet_grown (first | (go_at_call 97; refine Calls.grown_of (same97 y x _)))
          go_wp2_with fail
          have RQ := HR.out.grow nq osq
          have GQ := only_below HG.out (grown_below nq osq)
          have HN : Hid (compactL (cs.take (kp + 1 + 1)) = cs.take (kp + 1 + 1)) := by
            show _ = _
            rw [compactL_take HX.out HY.out, HQ.out, HC.out, List.take_add_one (i := kp + 1), HY.out]; rfl
          go_roundw
          case measure => simp [intOf] <;> omega
          case rel => exact ⟨kp + 1 + 1, by go_num, by omega, by omega, HN, RQ, GQ⟩
        | true =>
          have HQ := hid hq
          go_wp2_with fail
          go_quiet_grown (first | (go_at_call 97; refine Calls.grown_of (same97 y x _)))
          have RQ := HR.out.grow nq osq
          have GQ := only_below HG.out (grown_below nq osq)
          have HN : Hid (ComAt w g cs tl (kp + 1) (kp + 1) (grow (wr.drewN nq) osq)) := by
            have e : compactL (cs.take (kp + 1 + 1)) = cs.take (kp + 1) := by
              rw [compactL_take HX.out HY.out, HQ.out, HC.out]; simp
            refine ⟨[], ?_, GQ, ?_, by simp⟩
            · rw [e, List.nil_append, List.take_append_drop]; exact RQ
            · rw [e, List.length_take]; have := HL.out; omega
          clear RQ GQ c0 c1 c2 c3
          generalize grow (wr.drewN nq) osq = wq at *
          have hz4 : ¬ cap = kp + 1 := by omega
          have hz5 : (n : Int) ≤ (cap : Int) := by omega
          clear HQ HC HR HG hwp
          have hgl : g < wq.heap.size := by obtain ⟨M, q1, _⟩ := HN.out; exact q1.lt
          go_wp2_with fail
          generalize (y.fst == x.fst) = bb at *
          subst hq
          go_loopw [5, 7] (fun vk vk2 wr => ∃ k t k2 : Nat, vk = .int .i64 k ∧ vk2 = .int .i64 k2 ∧ t + 1 = k2 ∧ kp + 1 + t < n ∧ 1 ≤ k ∧ k ≤ kp + 1 + t ∧ Hid (ComAt w g cs tl k (kp + 1 + t) wr)) (fun _ vk2 _ => n - (intOf vk2).toNat)
          case atStart => exact ⟨kp + 1, 0, 1, by go_num, rfl, rfl, by omega, by omega, by omega, HN⟩
          case round =>
            obtain ⟨k, t, k2, rfl, rfl, ht, htn, hk1', hkt, HA⟩ := hrel
            by_cases hlt2 : k2 < n - (kp + 1)
            · have hltz2 : (k2 : Int) < ((n - (kp + 1) : Nat) : Int) := by omega
              have htz : (k2 : Int) - 1 = (t : Int) := by omega
              have htz2 : (t : Int) < ((n - (kp + 1) : Nat) : Int) := by omega
              have htl : t < n - (kp + 1) := by omega
              have hwt : IntKind.i64.wrap (t : Int) = (t : Int) := by rw [IntKind.wrap_i64]; omega
              have hkz : (k : Int) < (n : Int) := by omega
              have hkn' : k < n := by omega
              obtain ⟨M, q1, q2, q3, q4⟩ := HA.out
              obtain ⟨x', hx'⟩ : ∃ x, cs[kp + 1 + t]? = some x := ⟨_, List.getElem?_eq_getElem (by have := HL.out; omega)⟩
              obtain ⟨y', hy'⟩ : ∃ y, cs[kp + 1 + t + 1]? = some y := ⟨_, List.getElem?_eq_getElem (by have := HL.out; omega)⟩
              have ex : (compactL (cs.take (kp + 1 + t + 1)) ++ (M ++ cs.drop (kp + 1 + t)))[kp + 1 + t]? = some x' := by
                rw [← List.append_assoc, List.getElem?_append_right (by simp; omega), List.getElem?_drop]
                have e : kp + 1 + t + (kp + 1 + t - (compactL (cs.take (kp + 1 + t + 1)) ++ M).length) = kp + 1 + t := by simp; omega
                rw [e]; exact hx'
              have ey : (compactL (cs.take (kp + 1 + t + 1)) ++ (M ++ cs.drop (kp + 1 + t)))[kp + 1 + t + 1]? = some y' := by
                rw [← List.append_assoc, List.getElem?_append_right (by simp; omega), List.getElem?_drop]
                have e : kp + 1 + t + (kp + 1 + t + 1 - (compactL (cs.take (kp + 1 + t + 1)) ++ M).length) = kp + 1 + t + 1 := by simp; omega
                rw [e]; exact hy'
              have e1 : (kp + 1) * 2 + t * 2 = (kp + 1 + t) * 2 := by omega
              have e2' : (kp + 1) * 2 + k2 * 2 = (kp + 1 + t + 1) * 2 := by omega
              have c0 : ∀ m os, (grow (wr.drewN m) os).cell? ⟨g, (kp + 1) * 2 + t * 2, none⟩ = some (.int .u64 x'.1) := fun m os => by rw [e1]; exact (q1.grow m os).cell0 ex
              have c1 : ∀ m os, (grow (wr.drewN m) os).cell? ⟨g, (kp + 1) * 2 + t * 2 + 1, none⟩ = some (.int .i64 x'.2) := fun m os => by rw [e1]; exact (q1.grow m os).cell1 ex
              have c2 : ∀ m os, (grow (wr.drewN m) os).cell? ⟨g, (kp + 1) * 2 + k2 * 2, none⟩ = some (.int .u64 y'.1) := fun m os => by rw [e2']; exact (q1.grow m os).cell0 ey
              have c3 : ∀ m os, (grow (wr.drewN m) os).cell? ⟨g, (kp + 1) * 2 + k2 * 2 + 1, none⟩ = some (.int .i64 y'.2) := fun m os => by rw [e2']; exact (q1.grow m os).cell1 ey
              have f0 : ∀ m os, (grow (wr.drewN m) os).frozen? ⟨g, k * 2, none⟩ = false := fun m os => (q1.grow m os).free _
              have f1 : ∀ m os, (grow (wr.drewN m) os).frozen? ⟨g, k * 2 + 1, none⟩ = false := fun m os => (q1.grow m os).free _
              obtain ⟨z, hz'⟩ : ∃ z, (compactL (cs.take (kp + 1 + t + 1)) ++ (M ++ cs.drop (kp + 1 + t)))[k]? = some z := ⟨_, getD_some _ (by have := HL.out; simp; omega)⟩
              have d0 : ∀ m os, (grow (wr.drewN m) os).cell? ⟨g, k * 2, none⟩ = some (.int .u64 z.1) := fun m os => (q1.grow m os).cell0 hz'
              have d1 : ∀ m os, (grow (wr.drewN m) os).cell? ⟨g, k * 2 + 1, none⟩ = some (.int .i64 z.2) := fun m os => (q1.grow m os).cell1 hz'
              have HX' := hid hx'
              have HY' := hid hy'
              have Q1 := hid q1
              have Q2 := hid q2
              have Q3 := hid q3
              have Q4 := hid q4
              have HT' := hid ht
              clear hx' hy' ex ey hz' q1 q2 q3 q4 e1 e2' HA
              cases hq' : (y'.1 == x'.1) with
              | true =>
                have HQ' := hid hq'
                go_wp2_with fail
                go_quiet_grown (first | (go_at_call 97; refine Calls.grown_of (same97 y' x' _)))
                go_wp2_with fail
                have RQ := Q1.out.grow nq osq
                have GQ := only_below Q2.out (grown_below nq osq)
                have HN' : Hid (ComAt w g cs tl k (kp + 1 + (t + 1)) (grow (wr.drewN nq) osq)) := by
                  refine ⟨M ++ [x'], ?_, GQ, ?_, ?_⟩
                  · have e : compactL (cs.take (kp + 1 + (t + 1) + 1)) = compactL (cs.take (kp + 1 + t + 1)) := by
                      have := compactL_take HX'.out HY'.out
                      rw [HQ'.out] at this
                      rw [show kp + 1 + (t + 1) + 1 = kp + 1 + t + 2 by omega]
                      simpa using this
                    rw [e]
                    have e3 : cs.drop (kp + 1 + t) = x' :: cs.drop (kp + 1 + (t + 1)) := by
                      obtain ⟨hl, rfl⟩ := List.getElem?_eq_some_iff.1 HX'.out
                      exact List.drop_eq_getElem_cons hl
                    rw [e3] at RQ
                    simpa using RQ
                  · have e : compactL (cs.take (kp + 1 + (t + 1) + 1)) = compactL (cs.take (kp + 1 + t + 1)) := by
                      have := compactL_take HX'.out HY'.out
                      rw [HQ'.out] at this
                      rw [show kp + 1 + (t + 1) + 1 = kp + 1 + t + 2 by omega]
                      simpa using this
                    rw [e]; exact Q3.out
                  · have := Q4.out; simp; omega
                go_roundw
                case measure => simp [intOf] <;> omega
                case rel => exact ⟨k, t + 1, k2 + 1, rfl, by go_num, by omega, by omega, by omega, by omega, HN'⟩
              | false =>
                have HQ' := hid hq'
                go_wp2_with fail
                go_quiet_grown (first | (go_at_call 97; refine Calls.grown_of (same97 y' x' _)))
                go_wp2_with fail
                have RQ := (Q1.out.grow nq osq).put (i := k) (by have := HL.out; have := Q3.out; have := Q4.out; simp; omega) y'
                have GQ := only_setCell (only_setCell (only_below Q2.out (grown_below nq osq)) (p := ⟨g, k * 2, none⟩) (.inl rfl) (.int .u64 y'.1)) (p := ⟨g, k * 2 + 1, none⟩) (.inl rfl) (.int .i64 y'.2)
                have HN' : Hid (ComAt w g cs tl (k + 1) (kp + 1 + (t + 1)) (((grow (wr.drewN nq) osq).setCell ⟨g, k * 2, none⟩ (.int .u64 y'.1)).setCell ⟨g, k * 2 + 1, none⟩ (.int .i64 y'.2))) := by
                  have e : compactL (cs.take (kp + 1 + (t + 1) + 1)) = compactL (cs.take (kp + 1 + t + 1)) ++ [y'] := by
                    have := compactL_take HX'.out HY'.out
                    rw [HQ'.out] at this
                    rw [show kp + 1 + (t + 1) + 1 = kp + 1 + t + 2 by omega]
                    simpa using this
                  have q3 := Q3.out
                  have q4 := Q4.out
                  have e3 : cs.drop (kp + 1 + t) = x' :: cs.drop (kp + 1 + (t + 1)) := by
                    obtain ⟨hl, rfl⟩ := List.getElem?_eq_some_iff.1 HX'.out
                    exact List.drop_eq_getElem_cons hl
                  cases M with
                  | nil =>
                    refine ⟨[], ?_, GQ, ?_, ?_⟩
                    · have e4 : (compactL (cs.take (kp + 1 + t + 1)) ++ ([] ++ cs.drop (kp + 1 + t))).set k y' = compactL (cs.take (kp + 1 + (t + 1) + 1)) ++ ([] ++ cs.drop (kp + 1 + (t + 1))) := by
                        rw [e, e3, ← q3, List.set_append_right _ _ (by omega)]; simp
                      rw [← e4]; exact RQ
                    · rw [e]; simp; omega
                    · simp at q4 ⊢; omega
                  | cons m0 M =>
                    refine ⟨M ++ [x'], ?_, GQ, ?_, ?_⟩
                    · have e4 : (compactL (cs.take (kp + 1 + t + 1)) ++ (m0 :: M ++ cs.drop (kp + 1 + t))).set k y' = compactL (cs.take (kp + 1 + (t + 1) + 1)) ++ (M ++ [x'] ++ cs.drop (kp + 1 + (t + 1))) := by
                        rw [e, e3, ← q3, List.set_append_right _ _ (by omega)]; simp
                      rw [← e4]; exact RQ
                    · rw [e]; simp; omega
                    · simp at q4 ⊢; omega
                go_roundw
                case measure => simp [intOf] <;> omega
                case rel => exact ⟨k + 1, t + 1, k2 + 1, by go_num, by go_num, by omega, by omega, by omega, by omega, HN'⟩
            · have hltz2 : ¬ (k2 : Int) < ((n - (kp + 1) : Nat) : Int) := by omega
              obtain ⟨M, q1, q2, q3, q4⟩ := HA.out
              have hln := HL.out
              have et : cs.take (kp + 1 + t + 1) = cs := List.take_of_length_le (by omega)
              rw [et] at q1 q3
              have hMl : (M ++ cs.drop (kp + 1 + t)).length = n - k := by simp; omega
              have hcl := fun ty => run_clear_cats q1 (cap - k) (by omega) ty
              rw [q3, hMl] at hcl
              have hz0' : (0 : Int) ≤ (k : Int) := by omega
              have hz1' : (k : Int) ≤ (n : Int) := by omega
              have hz2' : (k : Int) ≤ (cap : Int) := by omega
              have hz4' : ¬ cap = k := by omega
              have HF := hid q3
              have HR2 : Hid (Shrunk w g cs (compactL cs) tl (wr.setCells g (k * 2) (flat (List.replicate (n - k) (0, 0))))) := by
                have h := Row.putMany (List.replicate (n - k) (0, 0)) _ _ _ q1 (by rw [hMl]; simp)
                rw [q3] at h
                refine ⟨flat (List.replicate (n - k) (0, 0)) ++ tl, ?_, ?_, only_setCells _ _ _ q2⟩
                · unfold Row at h ⊢
                  have e : (M ++ cs.drop (kp + 1 + t)).drop (List.replicate (n - k) ((0 : Int), (0 : Int))).length = [] := List.drop_eq_nil_of_le (by rw [hMl]; simp)
                  rw [e, List.append_nil, flat_append, List.append_assoc] at h
                  exact h
                · simp only [List.length_append, flat_length, List.length_replicate]; omega
              clear q1 q2 q3 q4 et HA hMl
              go_wp2_with fail
              go_ret
              exact ⟨by rw [HF.out]; rfl, HR2.out⟩
      · have hltz : ¬ (k : Int) < (n : Int) := by omega
        have hkn2 : Hid (compactL cs = cs) := by
          show _ = _
          have := HC.out
          rwa [List.take_of_length_le (by have := HL.out; omega)] at this
        have HP : Shrunk w g cs (compactL cs) tl wr := by rw [hkn2.out]; exact ⟨tl, HR.out, rfl, HG.out⟩
        have HN : Hid ((compactL cs).length = n) := by show _ = _; rw [hkn2.out]; exact HL.out
        have HPP : Hid (Shrunk w g cs (compactL cs) tl wr) := HP
        clear hkn2 HC HP
        go_wp2_with fail
        go_ret
        exact ⟨by rw [HN.out]; rfl, HPP.out⟩
end Go.Proofs.Ytndohmimcbmhdaa
