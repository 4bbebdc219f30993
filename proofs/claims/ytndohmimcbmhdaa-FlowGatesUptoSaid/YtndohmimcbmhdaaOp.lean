/- What the arguments hold: categories, labels, two labels. -/
import Derived.Test.YtndohmimcbmhdaaFrame
import Derived.Test.YtndohmimcbmhdaaSl
import Derived.Test.YtndohmimcbmhdaaRows
import Derived.Deep.Slices
import Derived.Lib.SmallJoins
import Derived.SizedLaws
set_option linter.unusedVariables false
set_option linter.unusedSimpArgs false
namespace Go.Proofs.Ytndohmimcbmhdaa
open Go.RowKit Go.ChangeShapes Go.WideShapes Go.Deep
set_option maxRecDepth 100000

theorem cellsOf26 : Try.prog.cellsOf 26 = 2 := by kernel_rfl
theorem cellsOf24 : Try.prog.cellsOf 24 = 1 := by kernel_rfl
theorem cellsOf3 : Try.prog.cellsOf 3 = 1 := by kernel_rfl
theorem cellsOf23 : Try.prog.cellsOf 23 = 1 := by kernel_rfl
theorem cellsOf32 : Try.prog.cellsOf 32 = 2 := by kernel_rfl
theorem cellsOf43 : Try.prog.cellsOf 43 = 4 := by kernel_rfl
theorem bytesOf32 : Try.prog.bytesOf 32 = 16 := by kernel_rfl

theorem cell_lt {w : World} {a : Addr} {v : Value} (h : w.cell? a = some v) : a.block < w.heap.size := by
  rcases Nat.lt_or_ge a.block w.heap.size with hl | hl
  · exact hl
  · simp [World.cell?, Array.getElem?_eq_none hl] at h

/-- Each slice in it takes what the form lets in. -/
def Fits {H : Type} (t : TypeId) (d : DataW H) : Prop := ∀ n ∈ d.weights Try.prog t, n ≤ reachBytes
theorem Fits.of_all {H : Type} {ts : List TypeId} {ds : List (DataW H)} (h : (DataW.weightsEach Try.prog ts ds).all (· ≤ reachBytes) = true) {j : Nat} {t : TypeId} {d : DataW H} (ht : ts[j]? = some t) (hd : ds[j]? = some d) : Fits t d :=
  fun n hn => by simpa using List.all_eq_true.1 h n (DataW.weights_mem_each ht hd n hn)
theorem weights_mem_all {H : Type} {e : TypeId} : ∀ {ds : List (DataW H)} {d : DataW H}, d ∈ ds → ∀ n ∈ d.weights Try.prog e, n ∈ DataW.weightsAll Try.prog e ds := by
  intro ds
  induction ds with
  | nil => intro d h; cases h
  | cons x ds ih =>
    intro d h n hn
    rw [DataW.weightsAll, List.mem_append]
    rcases List.mem_cons.1 h with rfl | h
    · exact .inl hn
    · exact .inr (ih h n hn)
theorem Fits.field {H : Type} {t : TypeId} {fs : Array Field} {parts : List (DataW H)} (ht : Try.prog.underlying t = some (.struct fs)) (h : Fits t (.agg parts)) {j : Nat} {T : TypeId} {d : DataW H} (hT : (fs.toList.map (·.type))[j]? = some T) (hd : parts[j]? = some d) : Fits T d :=
  fun n hn => h n (by rw [DataW.weights, ht]; exact DataW.weights_mem_each hT hd n hn)
theorem Fits.elem {H : Type} {t e : TypeId} {m : Nat} {parts : List (DataW H)} (ht : Try.prog.underlying t = some (.array m e)) (h : Fits t (.agg parts)) {d : DataW H} (hd : d ∈ parts) : Fits e d :=
  fun n hn => h n (by rw [DataW.weights, ht]; exact weights_mem_all hd n hn)
theorem Fits.slice {H : Type} {t e : TypeId} {elems spare : List (DataW H)} (ht : Try.prog.underlying t = some (.slice e)) (h : Fits t (.slice elems spare)) : (elems.length + spare.length) * Try.prog.bytesOf e ≤ reachBytes :=
  h _ (by rw [DataW.weights, ht]; exact List.mem_cons_self)

theorem bulk_one {H : Type} (d : DataW H) : 1 ≤ Rows.uptoBulk d := by
  cases d with
  | lit l => cases l <;> simp [Rows.uptoBulk]
  | _ => simp [Rows.uptoBulk]
theorem bulk_part {H : Type} {d : DataW H} {l : List (DataW H)} (h : d ∈ l) : Rows.uptoBulk d ≤ Rows.uptoBulkAll l := by
  induction l with
  | nil => cases h
  | cons x r ih =>
    simp only [Rows.uptoBulkAll]
    rcases List.mem_cons.1 h with e | e
    · subst e; omega
    · have := ih e; omega
theorem bulk_length {H : Type} (l : List (DataW H)) : l.length ≤ Rows.uptoBulkAll l := by
  induction l with
  | nil => simp [Rows.uptoBulkAll]
  | cons x r ih => have := bulk_one x; simp only [Rows.uptoBulkAll, List.length_cons]; omega
theorem bulk_slice {H : Type} (elems spare : List (DataW H)) : elems.length + spare.length + 1 ≤ Rows.uptoBulk (.slice elems spare) := by
  have h1 := bulk_length elems
  have h2 := bulk_length spare
  simp only [Rows.uptoBulk]
  omega
theorem bulk_field {H : Type} {parts : List (DataW H)} {d : DataW H} {j : Nat} (h : parts[j]? = some d) : Rows.uptoBulk d ≤ Rows.uptoBulk (.agg parts) := by
  have := bulk_part (List.mem_of_getElem? h)
  simp only [Rows.uptoBulk]
  omega
theorem bulk_two {H : Type} (a b : DataW H) (r : List (DataW H)) : Rows.uptoBulk a + Rows.uptoBulk b ≤ Rows.uptoBulkAll (a :: b :: r) := by simp only [Rows.uptoBulkAll]; omega
theorem bulk_at2 {H : Type} {l : List (DataW H)} {a b : DataW H} (h0 : l[0]? = some a) (h1 : l[1]? = some b) : Rows.uptoBulk a + Rows.uptoBulk b ≤ Rows.uptoBulkAll l := by
  match l, h0, h1 with
  | p :: q :: r, h0, h1 =>
    simp only [List.getElem?_cons_zero, List.getElem?_cons_succ, Option.some.injEq] at h0 h1
    subst h0 h1
    exact bulk_two p q r
theorem small_of {H : Type} {ds : List (DataW H)} (h : Rows.uptoSmall H ds = true) : Rows.uptoBulkAll ds ≤ 1048576 := of_decide_eq_true h

section
variable {H : Type} {enc : TypeId × Value → H} {w : World} {base : Nat} {spare : Nat → Bool} {held : Bool}
theorem got {α : Type} {xs : List α} {n i : Nat} {o : Option α} (hl : xs.length = n) (hi : i < n) (h : o = xs[i]?) : ∃ y, o = some y ∧ xs[i]? = some y := ⟨xs[i], by rw [h]; exact List.getElem?_eq_getElem (by omega), List.getElem?_eq_getElem (by omega)⟩
theorem fld {fs : Array Field} {xs : List (DataW H × List MemPlace)} {cs : List Value} {n : Nat} (hf : ∀ (i : Nat) (f : Field), fs[i]? = some f → DataW.trod enc Try.prog w base spare held n f.type ((cs.drop f.offset).take (Try.prog.cellsOf f.type)) = xs[i]?) (hl : xs.length = fs.size)
    (i T off k : Nat) (hT : fs[i]?.map (fun f => (f.type, f.offset)) = some (T, off)) (hk : Try.prog.cellsOf T = k) : ∃ y, DataW.trod enc Try.prog w base spare held n T ((cs.drop off).take k) = some y ∧ (xs.map (·.1))[i]? = some y.1 := by
  cases h : fs[i]? with
  | none => rw [h] at hT; cases hT
  | some f =>
    rw [h] at hT
    simp only [Option.map_some, Option.some.injEq, Prod.mk.injEq] at hT
    obtain ⟨rfl, rfl⟩ := hT
    subst hk
    have hi : i < fs.size := (Array.getElem?_eq_some_iff.1 h).1
    have hx := List.getElem?_eq_getElem (l := xs) (i := i) (by omega)
    exact ⟨_, (hf i f h).trans hx, by rw [List.getElem?_map, hx]; rfl⟩

/-- A category's cells. -/
theorem cat_of_trod {fuel : Nat} {cs : List Value} {x : DataW H × List MemPlace} (h : DataW.trod enc Try.prog w base spare held fuel 32 cs = some x) :
    ∃ a b : Int, cs = [.int .u64 a, .int .i64 b] ∧ (0 ≤ a ∧ a ≤ 18446744073709551615) ∧ (-9223372036854775808 ≤ b ∧ b ≤ 9223372036854775807) := by
  obtain ⟨xs, n, _, _, hl, hlen, hf⟩ := DataW.trod_struct Try.underlying32 h
  rw [cellsOf32] at hl
  match cs, hl with
  | [c0, c1], _ =>
    obtain ⟨y0, g0, _⟩ : ∃ y, DataW.trod enc Try.prog w base spare held n 24 [c0] = some y ∧ _ := fld hf hlen 0 24 0 1 rfl cellsOf24
    obtain ⟨y1, g1, _⟩ : ∃ y, DataW.trod enc Try.prog w base spare held n 3 [c1] = some y ∧ _ := fld hf hlen 1 3 1 1 rfl cellsOf3
    obtain ⟨a, k0, _, w0⟩ := DataW.trod_int Try.underlying24 g0
    obtain ⟨b, k1, _, w1⟩ := DataW.trod_int Try.underlying3 g1
    simp only [List.cons.injEq, and_true] at k0 k1
    subst k0 k1
    exact ⟨a, b, rfl, by simpa [Lit.wf, IntKind.min, IntKind.max, IntKind.signed, IntKind.bits] using w0, by simpa [Lit.wf, IntKind.min, IntKind.max, IntKind.signed, IntKind.bits] using w1⟩

theorem cats_of_trod {fuel : Nat} {cs : List Value} {x : DataW H × List MemPlace} (h : DataW.trod enc Try.prog w base spare held fuel 23 cs = some x) :
    ∃ A n c l, cs = [.slice A n c] ∧ CatsAt w w.heap.size A n c l ∧ (Fits 23 x.1 → n ≤ 8796093022207) ∧ n + 1 ≤ Rows.uptoBulk x.1 := by
  rcases open_slice Try.underlying23 h with ⟨rfl, rfl⟩ | ⟨a, len, cap, m, n, D, Pl, rfl, hb, hl, hm, hmm, hx, hi⟩
  · exact ⟨none, 0, 0, [], rfl, CatsAt.nil_, fun _ => by omega, bulk_one _⟩
  · have hle : len ≤ m := by rw [hmm]; split <;> omega
    have hch : ∀ i, i < len → ∃ t : Int × Int, w.cell? ((a.add (i * 2)).add 0) = some (.int .u64 t.1) ∧ w.cell? ((a.add (i * 2)).add 1) = some (.int .i64 t.2) := by
      intro i hil
      obtain ⟨cs', hc, ht⟩ := hi i (by omega)
      rw [cellsOf32] at hc
      obtain ⟨p, q, rfl, _, _⟩ := cat_of_trod ht
      obtain ⟨_, hcl, hat⟩ := World.cells?_some hc
      exact ⟨(p, q), hat 0 (by omega), hat 1 (by omega)⟩
    refine ⟨some a, len, cap, (List.range len).map (fun i => if hh : i < len then (hch i hh).choose else (0, 0)), rfl, ⟨by simp, hl, hm, fun hn => ?_⟩, fun hF => ?_, ?_⟩
    · have h0 := (hch 0 hn).choose_spec.1
      have e0 : (a.add (0 * 2)).add 0 = a := by simp [Addr.add]
      replace h0 := (congrArg w.cell? e0).symm.trans h0
      have hsp := World.cell?_spot h0
      obtain ⟨b, off, sp⟩ := a
      simp only at hsp
      subst hsp
      refine ⟨b, off, rfl, cell_lt h0, fun i t ht => ?_⟩
      have hil : i < len := by
        have := (List.getElem?_eq_some_iff.1 ht).1
        simpa using this
      have et : t = (hch i hil).choose := by
        simp [hil] at ht
        exact ht.symm
      subst et
      have q := (hch i hil).choose_spec
      generalize (hch i hil).choose = t at q ⊢
      have ea : ((⟨b, off, none⟩ : Addr).add (i * 2)).add 0 = ⟨b, off + i * 2, none⟩ := by
        unfold Addr.add
        by_cases h1 : i * 2 = 0 <;> simp [h1]
      have eb : ((⟨b, off, none⟩ : Addr).add (i * 2)).add 1 = ⟨b, off + i * 2 + 1, none⟩ := by
        unfold Addr.add
        by_cases h1 : i * 2 = 0 <;> simp [h1]
      rw [ea, eb] at q
      exact q
    · rw [hx] at hF
      have := hF.slice Try.underlying23
      rw [bytesOf32] at this
      simp only [List.length_map, List.length_range, reachBytes] at this
      omega
    · rw [hx]
      have := bulk_slice ((List.range len).map D) ((List.range (m - len)).map fun j => D (len + j))
      simp only [List.length_map, List.length_range] at this
      simp only
      omega

theorem label_of_trod {fuel : Nat} {cs : List Value} {x : DataW H × List MemPlace} (h : DataW.trod enc Try.prog w base spare held fuel 26 cs = some x) :
    ∃ d A n c l, cs = [.int .i64 d, .slice A n c] ∧ CatsAt w w.heap.size A n c l ∧ (Fits 26 x.1 → n ≤ 8796093022207) ∧ n + 2 ≤ Rows.uptoBulk x.1 := by
  obtain ⟨xs, n, _, hx, hl, hlen, hf⟩ := DataW.trod_struct Try.underlying26 h
  rw [cellsOf26] at hl
  match cs, hl with
  | [c0, c1], _ =>
    obtain ⟨y0, g0, m0⟩ : ∃ y, DataW.trod enc Try.prog w base spare held n 3 [c0] = some y ∧ _ := fld hf hlen 0 3 0 1 rfl cellsOf3
    obtain ⟨y1, g1, m1⟩ : ∃ y, DataW.trod enc Try.prog w base spare held n 23 [c1] = some y ∧ _ := fld hf hlen 1 23 1 1 rfl cellsOf23
    obtain ⟨d, k0, _, _⟩ := DataW.trod_int Try.underlying3 g0
    obtain ⟨A, n', c, l, k1, hT, hF, hb⟩ := cats_of_trod g1
    simp only [List.cons.injEq, and_true] at k0 k1
    subst k0 k1
    subst hx
    refine ⟨d, A, n', c, l, rfl, hT, fun hh => hF (hh.field Try.underlying26 (j := 1) rfl m1), ?_⟩
    have := bulk_part (List.mem_of_getElem? m1)
    simp only [Rows.uptoBulk]
    omega

theorem who_of_trod {fuel : Nat} {cs : List Value} {x : DataW H × List MemPlace} (h : DataW.trod enc Try.prog w base spare held fuel 43 cs = some x) :
    ∃ d A n c l d' A' n' c' l', cs = [.int .i64 d, .slice A n c, .int .i64 d', .slice A' n' c'] ∧ CatsAt w w.heap.size A n c l ∧ CatsAt w w.heap.size A' n' c' l' ∧ (Fits 43 x.1 → n ≤ 8796093022207 ∧ n' ≤ 8796093022207) ∧ n + n' + 4 ≤ Rows.uptoBulk x.1 := by
  obtain ⟨xs, n, _, hx, hl, hlen, hf⟩ := DataW.trod_struct Try.underlying43 h
  rw [cellsOf43] at hl
  match cs, hl with
  | [c0, c1, c2, c3], _ =>
    obtain ⟨y0, g0, m0⟩ : ∃ y, DataW.trod enc Try.prog w base spare held n 26 [c0, c1] = some y ∧ _ := fld hf hlen 0 26 0 2 rfl cellsOf26
    obtain ⟨y1, g1, m1⟩ : ∃ y, DataW.trod enc Try.prog w base spare held n 26 [c2, c3] = some y ∧ _ := fld hf hlen 1 26 2 2 rfl cellsOf26
    obtain ⟨d, A, n1, c, l, k0, hT, hF, hb⟩ := label_of_trod g0
    obtain ⟨d', A', n2, c', l', k1, hT', hF', hb'⟩ := label_of_trod g1
    simp only [List.cons.injEq, and_true] at k0 k1
    obtain ⟨rfl, rfl⟩ := k0
    obtain ⟨rfl, rfl⟩ := k1
    subst hx
    refine ⟨d, A, n1, c, l, d', A', n2, c', l', rfl, hT, hT', fun hh => ⟨hF (hh.field Try.underlying43 (j := 0) rfl m0), hF' (hh.field Try.underlying43 (j := 1) rfl m1)⟩, ?_⟩
    have := bulk_at2 m0 m1
    simp only [Rows.uptoBulk]
    omega
end

section
variable {H : Type} {enc : TypeId × Value → H} {W : World} {base b0 : Nat} {spare : Nat → Bool} {held : Bool} {r : Reach} {v : Value} {d : DataW H} {p : List MemPlace}
theorem agg_of {t : TypeId} {fs : Array Field} {k : Nat} (ht : Try.prog.underlying t = some (.struct fs)) (hv : Value.okWide Try.prog W r b0 t v) {l : List Value} (h : v.cells.toList = l) : v = .agg l.toArray := by
  obtain ⟨cs, rfl, _⟩ := okWide_struct ht hv
  subst h
  simp [Value.cells]
theorem open_label (hv : Value.okWide Try.prog W r b0 26 v) (h : DataW.Trod enc Try.prog W base spare held 26 v d p) :
    ∃ dd A n c l, v = .agg #[.int .i64 dd, .slice A n c] ∧ CatsAt W W.heap.size A n c l ∧ (Fits 26 d → n ≤ 8796093022207) ∧ n + 2 ≤ Rows.uptoBulk d := by
  obtain ⟨fu, h⟩ := h
  obtain ⟨dd, A, n, c, l, e, hT, hF, hb⟩ := label_of_trod h
  exact ⟨dd, A, n, c, l, agg_of (k := 0) Try.underlying26 hv e, hT, hF, hb⟩
theorem open_who (hv : Value.okWide Try.prog W r b0 43 v) (h : DataW.Trod enc Try.prog W base spare held 43 v d p) :
    ∃ d1 A n c l d' A' n' c' l', v = .agg #[.int .i64 d1, .slice A n c, .int .i64 d', .slice A' n' c'] ∧ CatsAt W W.heap.size A n c l ∧ CatsAt W W.heap.size A' n' c' l' ∧ (Fits 43 d → n ≤ 8796093022207 ∧ n' ≤ 8796093022207) ∧ n + n' + 4 ≤ Rows.uptoBulk d := by
  obtain ⟨fu, h⟩ := h
  obtain ⟨d1, A, n, c, l, d', A', n', c', l', e, h1, h2, h3, h4⟩ := who_of_trod h
  exact ⟨d1, A, n, c, l, d', A', n', c', l', agg_of (k := 0) Try.underlying43 hv e, h1, h2, h3, h4⟩
theorem open_cat (hv : Value.okWide Try.prog W r b0 32 v) (h : DataW.Trod enc Try.prog W base spare held 32 v d p) :
    ∃ a b : Int, v = .agg #[.int .u64 a, .int .i64 b] ∧ (0 ≤ a ∧ a ≤ 18446744073709551615) ∧ (-9223372036854775808 ≤ b ∧ b ≤ 9223372036854775807) := by
  obtain ⟨fu, h⟩ := h
  obtain ⟨a, b, e, h1, h2⟩ := cat_of_trod h
  exact ⟨a, b, agg_of (k := 0) Try.underlying32 hv e, h1, h2⟩
theorem open_cats (hv : Value.okWide Try.prog W r b0 23 v) (h : DataW.Trod enc Try.prog W base spare held 23 v d p) :
    ∃ A n c l, v = .slice A n c ∧ CatsAt W W.heap.size A n c l ∧ (Fits 23 d → n ≤ 8796093022207) ∧ n + 1 ≤ Rows.uptoBulk d := by
  obtain ⟨A', n', c', rfl⟩ := okWide_slice Try.underlying23 hv
  obtain ⟨fu, h⟩ := h
  obtain ⟨A, n, c, l, e, hT, hF, hb⟩ := cats_of_trod h
  obtain ⟨rfl, rfl, rfl⟩ : A' = A ∧ n' = n ∧ c' = c := by simpa [Value.cells] using e
  exact ⟨A', n', c', l, rfl, hT, hF, hb⟩
end
end Go.Proofs.Ytndohmimcbmhdaa
