/- A thing that comes in. -/
import Derived.Test.YtndohmimcbmhdaaMv0
set_option linter.unusedVariables false
set_option linter.unusedSimpArgs false
namespace Go.Proofs.Ytndohmimcbmhdaa
open Go.RowKit Go.ChangeShapes Go.WideShapes Go.Deep
set_option maxRecDepth 100000
theorem cellsOf61 : Try.prog.cellsOf 61 = 26 := by kernel_rfl
theorem cellsOf4 : Try.prog.cellsOf 4 = 1 := by kernel_rfl
theorem cellsOf5 : Try.prog.cellsOf 5 = 1 := by kernel_rfl
theorem cellsOf56 : Try.prog.cellsOf 56 = 1 := by kernel_rfl
theorem cellsOf57 : Try.prog.cellsOf 57 = 1 := by kernel_rfl
theorem cellsOf58 : Try.prog.cellsOf 58 = 4 := by kernel_rfl
theorem cellsOf63 : Try.prog.cellsOf 63 = 2 := by kernel_rfl
theorem cellsOf101 : Try.prog.cellsOf 101 = 2 := by kernel_rfl
theorem bytesOf101 : Try.prog.bytesOf 101 = 16 := by kernel_rfl
theorem bytesOf5 : Try.prog.bytesOf 5 = 1 := by kernel_rfl
section
variable {H : Type} {enc : TypeId × Value → H} {w W : World} {base b0 : Nat} {spare : Nat → Bool} {held : Bool} {d : DataW H} {p : List MemPlace} {v : Value}
/-- A link's cells. -/
theorem link_of_trod {fuel : Nat} {cs : List Value} {x : DataW H × List MemPlace} (h : DataW.trod enc Try.prog w base spare held fuel 101 cs = some x) :
    ∃ a b : Int, cs = [.int .u64 a, .int .i64 b] ∧ (0 ≤ a ∧ a ≤ 18446744073709551615) ∧ (-9223372036854775808 ≤ b ∧ b ≤ 9223372036854775807) := by
  obtain ⟨xs, n, _, _, hl, hlen, hf⟩ := DataW.trod_struct Try.underlying101 h
  rw [cellsOf101] at hl
  match cs, hl with
  | [c0, c1], _ =>
    obtain ⟨y0, g0, _⟩ : ∃ y, DataW.trod enc Try.prog w base spare held n 24 [c0] = some y ∧ _ := fld hf hlen 0 24 0 1 rfl cellsOf24
    obtain ⟨y1, g1, _⟩ : ∃ y, DataW.trod enc Try.prog w base spare held n 3 [c1] = some y ∧ _ := fld hf hlen 1 3 1 1 rfl cellsOf3
    obtain ⟨a, k0, _, w0⟩ := DataW.trod_int Try.underlying24 g0
    obtain ⟨b, k1, _, w1⟩ := DataW.trod_int Try.underlying3 g1
    simp only [List.cons.injEq, and_true] at k0 k1
    subst k0 k1
    exact ⟨a, b, rfl, by simpa [Lit.wf, IntKind.min, IntKind.max, IntKind.signed, IntKind.bits] using w0, by simpa [Lit.wf, IntKind.min, IntKind.max, IntKind.signed, IntKind.bits] using w1⟩

theorem links_of_trod {fuel : Nat} {cs : List Value} {x : DataW H × List MemPlace} (h : DataW.trod enc Try.prog w base spare held fuel 56 cs = some x) :
    ∃ A n c l, cs = [.slice A n c] ∧ CatsAt w w.heap.size A n c l ∧ (Fits 56 x.1 → n ≤ 8796093022207) ∧ n + 1 ≤ Rows.uptoBulk x.1 := by
  rcases open_slice Try.underlying56 h with ⟨rfl, rfl⟩ | ⟨a, len, cap, m, n, D, Pl, rfl, hb, hl, hm, hmm, hx, hi⟩
  · exact ⟨none, 0, 0, [], rfl, CatsAt.nil_, fun _ => by omega, bulk_one _⟩
  · have hle : len ≤ m := by rw [hmm]; split <;> omega
    have hch : ∀ i, i < len → ∃ t : Int × Int, w.cell? ((a.add (i * 2)).add 0) = some (.int .u64 t.1) ∧ w.cell? ((a.add (i * 2)).add 1) = some (.int .i64 t.2) := by
      intro i hil
      obtain ⟨cs', hc, ht⟩ := hi i (by omega)
      rw [cellsOf101] at hc
      obtain ⟨p, q, rfl, _, _⟩ := link_of_trod ht
      obtain ⟨_, hcl, hat⟩ := World.cells?_some hc
      exact ⟨(p, q), hat 0 (by omega), hat 1 (by omega)⟩
    refine ⟨some a, len, cap, (List.range len).map (fun i => if hh : i < len then (hch i hh).choose else (0, 0)), rfl, ⟨by simp, hl, hm, fun hn => ?_⟩, fun hF => ?_, ?_⟩
    · have h0 := (hch 0 hn).choose_spec.1
      have e0 : (a.add (0 * 2)).add 0 = a := by simp [Addr.add]
      replace h0 := (congrArg w.cell? e0).symm.trans h0
      have hsp := World.cell?_spot h0
      obtain ⟨b, off, sp⟩ := a
      simp only at hsp
      subst hsp
      refine ⟨b, off, rfl, cell_lt h0, fun i t ht => ?_⟩
      have hil : i < len := by
        have := (List.getElem?_eq_some_iff.1 ht).1
        simpa using this
      have et : t = (hch i hil).choose := by
        simp [hil] at ht
        exact ht.symm
      subst et
      have q := (hch i hil).choose_spec
      generalize (hch i hil).choose = t at q ⊢
      have ea : ((⟨b, off, none⟩ : Addr).add (i * 2)).add 0 = ⟨b, off + i * 2, none⟩ := by
        unfold Addr.add
        by_cases h1 : i * 2 = 0 <;> simp [h1]
      have eb : ((⟨b, off, none⟩ : Addr).add (i * 2)).add 1 = ⟨b, off + i * 2 + 1, none⟩ := by
        unfold Addr.add
        by_cases h1 : i * 2 = 0 <;> simp [h1]
      rw [ea, eb] at q
      exact q
    · rw [hx] at hF
      have := hF.slice Try.underlying56
      rw [bytesOf101] at this
      simp only [List.length_map, List.length_range, reachBytes] at this
      omega
    · rw [hx]
      have := bulk_slice ((List.range len).map D) ((List.range (m - len)).map fun j => D (len + j))
      simp only [List.length_map, List.length_range] at this
      simp only
      omega


theorem byte_of_trod {fuel : Nat} {cs : List Value} {x : DataW H × List MemPlace} (h : DataW.trod enc Try.prog w base spare held fuel 5 cs = some x) : ∃ a : Int, cs = [.int .u8 a] ∧ (0 ≤ a ∧ a ≤ 255) := by
  obtain ⟨a, k, _, r⟩ := DataW.trod_int Try.underlying5 h
  exact ⟨a, k, by simpa [u64R, i64R, Lit.wf, IntKind.min, IntKind.max, IntKind.signed, IntKind.bits] using r⟩
theorem bytes_of_trod {fuel : Nat} {cs : List Value} {x : DataW H × List MemPlace} (h : DataW.trod enc Try.prog w base spare held fuel 57 cs = some x) :
    ∃ A n c l, cs = [.slice A n c] ∧ BytesAt w w.heap.size A n c l ∧ (Fits 57 x.1 → n ≤ 140737488355328) ∧ n + 1 ≤ Rows.uptoBulk x.1 := by
  rcases open_slice Try.underlying57 h with ⟨rfl, rfl⟩ | ⟨a, len, cap, m, n, D, Pl, rfl, hb, hl, hm, hmm, hx, hi⟩
  · exact ⟨none, 0, 0, [], rfl, BytesAt.nil_, fun _ => by omega, bulk_one _⟩
  · have hle : len ≤ m := by rw [hmm]; split <;> omega
    have hch : ∀ i, i < len → ∃ t : Int, w.cell? ((a.add (i * 1)).add 0) = some (.int .u8 t) ∧ 0 ≤ t ∧ t ≤ 255 := by
      intro i hil
      obtain ⟨cs', hc, ht⟩ := hi i (by omega)
      rw [cellsOf5] at hc
      obtain ⟨p, rfl, r⟩ := byte_of_trod ht
      obtain ⟨_, hcl, hat⟩ := World.cells?_some hc
      exact ⟨p, hat 0 (by omega), r⟩
    refine ⟨some a, len, cap, (List.range len).map (fun i => if hh : i < len then (hch i hh).choose else 0), rfl, ⟨by simp, hl, hm, fun x hx => ?_, fun hn => ?_⟩, fun hF => ?_, ?_⟩
    · obtain ⟨i, hi, rfl⟩ := List.mem_map.1 hx
      have hil : i < len := List.mem_range.1 hi
      have := (hch i hil).choose_spec.2
      simp only [hil, dif_pos]
      exact this
    · have h0 := (hch 0 hn).choose_spec.1
      have e0 : (a.add (0 * 1)).add 0 = a := by simp [Addr.add]
      replace h0 := (congrArg w.cell? e0).symm.trans h0
      have hsp := World.cell?_spot h0
      obtain ⟨b, off, sp⟩ := a
      simp only at hsp
      subst hsp
      refine ⟨b, off, rfl, cell_lt h0, fun i t ht => ?_⟩
      have hil : i < len := by
        have := (List.getElem?_eq_some_iff.1 ht).1
        simpa using this
      have et : t = (if hh : i < len then (hch i hh).choose else 0) := by
        rw [List.getElem?_map, List.getElem?_range hil] at ht
        exact (Option.some.inj ht).symm
      rw [dif_pos hil] at et
      subst et
      have q := (hch i hil).choose_spec.1
      generalize (hch i hil).choose = t at q ⊢
      have ea : ((⟨b, off, none⟩ : Addr).add (i * 1)).add 0 = ⟨b, off + i, none⟩ := by
        unfold Addr.add
        by_cases h1 : i = 0 <;> simp [h1]
      rw [ea] at q
      exact q
    · rw [hx] at hF
      have := hF.slice Try.underlying57
      rw [bytesOf5] at this
      simp only [List.length_map, List.length_range, reachBytes] at this
      omega
    · rw [hx]
      have := bulk_slice ((List.range len).map D) ((List.range (m - len)).map fun j => D (len + j))
      simp only [List.length_map, List.length_range] at this
      simp only
      omega

theorem labelr_of_trod {fuel : Nat} {cs : List Value} {x : DataW H × List MemPlace} (h : DataW.trod enc Try.prog w base spare held fuel 26 cs = some x) :
    ∃ d A n c l, cs = [.int .i64 d, .slice A n c] ∧ CatsAt w w.heap.size A n c l ∧ (Fits 26 x.1 → n ≤ 8796093022207) ∧ i64R d := by
  obtain ⟨xs, n, _, hx, hl, hlen, hf⟩ := DataW.trod_struct Try.underlying26 h
  rw [cellsOf26] at hl
  match cs, hl with
  | [c0, c1], _ =>
    obtain ⟨y0, g0, m0⟩ : ∃ y, DataW.trod enc Try.prog w base spare held n 3 [c0] = some y ∧ _ := fld hf hlen 0 3 0 1 rfl cellsOf3
    obtain ⟨y1, g1, m1⟩ : ∃ y, DataW.trod enc Try.prog w base spare held n 23 [c1] = some y ∧ _ := fld hf hlen 1 23 1 1 rfl cellsOf23
    obtain ⟨d, k0, _, r0⟩ := DataW.trod_int Try.underlying3 g0
    obtain ⟨A, n', c, l, k1, hT, hF, hb⟩ := cats_of_trod g1
    simp only [List.cons.injEq, and_true] at k0 k1
    subst k0 k1
    subst hx
    exact ⟨d, A, n', c, l, rfl, hT, fun hh => hF (hh.field Try.underlying26 (j := 1) rfl m1), by simpa [u64R, i64R, Lit.wf, IntKind.min, IntKind.max, IntKind.signed, IntKind.bits] using r0⟩
theorem regs_of_trod {fuel : Nat} {cs : List Value} {x : DataW H × List MemPlace} (h : DataW.trod enc Try.prog w base spare held fuel 58 cs = some x) :
    ∃ a b c d : Int, cs = [.int .u64 a, .int .u64 b, .int .u64 c, .int .u64 d] ∧ u64R a ∧ u64R b ∧ u64R c ∧ u64R d := by
  obtain ⟨xs, n, _, _, hl, hlen, hf⟩ := DataW.trod_array Try.underlying58 h
  rw [cellsOf58] at hl
  rw [cellsOf24] at hf
  match cs, hl with
  | [c0, c1, c2, c3], _ =>
    obtain ⟨z0, g0, _⟩ : ∃ y, DataW.trod enc Try.prog w base spare held n 24 [c0] = some y ∧ _ := got hlen (by decide) (hf 0 (by decide))
    obtain ⟨z1, g1, _⟩ : ∃ y, DataW.trod enc Try.prog w base spare held n 24 [c1] = some y ∧ _ := got hlen (by decide) (hf 1 (by decide))
    obtain ⟨z2, g2, _⟩ : ∃ y, DataW.trod enc Try.prog w base spare held n 24 [c2] = some y ∧ _ := got hlen (by decide) (hf 2 (by decide))
    obtain ⟨z3, g3, _⟩ : ∃ y, DataW.trod enc Try.prog w base spare held n 24 [c3] = some y ∧ _ := got hlen (by decide) (hf 3 (by decide))
    obtain ⟨a, k0, _, r0⟩ := DataW.trod_int Try.underlying24 g0
    obtain ⟨b, k1, _, r1⟩ := DataW.trod_int Try.underlying24 g1
    obtain ⟨c, k2, _, r2⟩ := DataW.trod_int Try.underlying24 g2
    obtain ⟨d, k3, _, r3⟩ := DataW.trod_int Try.underlying24 g3
    simp only [List.cons.injEq, and_true] at k0 k1 k2 k3
    subst k0 k1 k2 k3
    exact ⟨a, b, c, d, rfl, by simpa [u64R, i64R, Lit.wf, IntKind.min, IntKind.max, IntKind.signed, IntKind.bits] using r0, by simpa [u64R, i64R, Lit.wf, IntKind.min, IntKind.max, IntKind.signed, IntKind.bits] using r1, by simpa [u64R, i64R, Lit.wf, IntKind.min, IntKind.max, IntKind.signed, IntKind.bits] using r2, by simpa [u64R, i64R, Lit.wf, IntKind.min, IntKind.max, IntKind.signed, IntKind.bits] using r3⟩
theorem ints2_of_trod {fuel : Nat} {cs : List Value} {x : DataW H × List MemPlace} (h : DataW.trod enc Try.prog w base spare held fuel 63 cs = some x) :
    ∃ a b : Int, cs = [.int .i64 a, .int .i64 b] ∧ i64R a ∧ i64R b := by
  obtain ⟨xs, n, _, _, hl, hlen, hf⟩ := DataW.trod_array Try.underlying63 h
  rw [cellsOf63] at hl
  rw [cellsOf3] at hf
  match cs, hl with
  | [c0, c1], _ =>
    obtain ⟨z0, g0, _⟩ : ∃ y, DataW.trod enc Try.prog w base spare held n 3 [c0] = some y ∧ _ := got hlen (by decide) (hf 0 (by decide))
    obtain ⟨z1, g1, _⟩ : ∃ y, DataW.trod enc Try.prog w base spare held n 3 [c1] = some y ∧ _ := got hlen (by decide) (hf 1 (by decide))
    obtain ⟨a, k0, _, r0⟩ := DataW.trod_int Try.underlying3 g0
    obtain ⟨b, k1, _, r1⟩ := DataW.trod_int Try.underlying3 g1
    simp only [List.cons.injEq, and_true] at k0 k1
    subst k0 k1
    exact ⟨a, b, rfl, by simpa [u64R, i64R, Lit.wf, IntKind.min, IntKind.max, IntKind.signed, IntKind.bits] using r0, by simpa [u64R, i64R, Lit.wf, IntKind.min, IntKind.max, IntKind.signed, IntKind.bits] using r1⟩
/-- Each of a thing's slices takes what the form lets in. -/
structure ThZ (t : Th) : Prop where
  z1 : t.l1.n ≤ 8796093022207
  z2 : t.l2.n ≤ 8796093022207
  z3 : t.links.n ≤ 8796093022207
  z4 : t.data.n ≤ 140737488355328
set_option maxHeartbeats 4000000 in
theorem th_of_trod {fuel : Nat} {cs : List Value} {x : DataW H × List MemPlace} (h : DataW.trod enc Try.prog w base spare held fuel 61 cs = some x) :
    ∃ (t : Th) (p : Tl), cs = t.cells ∧ ThAt w t p ∧ ThR t ∧ (Fits 61 x.1 → ThZ t) := by
  obtain ⟨xs, n, _, hx, hl, hlen, hf⟩ := DataW.trod_struct Try.underlying61 h
  rw [cellsOf61] at hl
  match cs, hl with
  | [c0, c1, c2, c3, c4, c5, c6, c7, c8, c9, c10, c11, c12, c13, c14, c15, c16, c17, c18, c19, c20, c21, c22, c23, c24, c25], _ =>
    obtain ⟨y0, g0, m0⟩ : ∃ y, DataW.trod enc Try.prog w base spare held n 24 [c0] = some y ∧ _ := fld hf hlen 0 24 0 1 rfl cellsOf24
    obtain ⟨y1, g1, m1⟩ : ∃ y, DataW.trod enc Try.prog w base spare held n 3 [c1] = some y ∧ _ := fld hf hlen 1 3 1 1 rfl cellsOf3
    obtain ⟨y2, g2, m2⟩ : ∃ y, DataW.trod enc Try.prog w base spare held n 26 [c2, c3] = some y ∧ _ := fld hf hlen 2 26 2 2 rfl cellsOf26
    obtain ⟨y3, g3, m3⟩ : ∃ y, DataW.trod enc Try.prog w base spare held n 26 [c4, c5] = some y ∧ _ := fld hf hlen 3 26 4 2 rfl cellsOf26
    obtain ⟨y4, g4, m4⟩ : ∃ y, DataW.trod enc Try.prog w base spare held n 3 [c6] = some y ∧ _ := fld hf hlen 4 3 6 1 rfl cellsOf3
    obtain ⟨y5, g5, m5⟩ : ∃ y, DataW.trod enc Try.prog w base spare held n 3 [c7] = some y ∧ _ := fld hf hlen 5 3 7 1 rfl cellsOf3
    obtain ⟨y6, g6, m6⟩ : ∃ y, DataW.trod enc Try.prog w base spare held n 56 [c8] = some y ∧ _ := fld hf hlen 6 56 8 1 rfl cellsOf56
    obtain ⟨y7, g7, m7⟩ : ∃ y, DataW.trod enc Try.prog w base spare held n 57 [c9] = some y ∧ _ := fld hf hlen 7 57 9 1 rfl cellsOf57
    obtain ⟨y8, g8, m8⟩ : ∃ y, DataW.trod enc Try.prog w base spare held n 58 [c10, c11, c12, c13] = some y ∧ _ := fld hf hlen 8 58 10 4 rfl cellsOf58
    obtain ⟨y9, g9, m9⟩ : ∃ y, DataW.trod enc Try.prog w base spare held n 3 [c14] = some y ∧ _ := fld hf hlen 9 3 14 1 rfl cellsOf3
    obtain ⟨y10, g10, m10⟩ : ∃ y, DataW.trod enc Try.prog w base spare held n 3 [c15] = some y ∧ _ := fld hf hlen 10 3 15 1 rfl cellsOf3
    obtain ⟨y11, g11, m11⟩ : ∃ y, DataW.trod enc Try.prog w base spare held n 4 [c16] = some y ∧ _ := fld hf hlen 11 4 16 1 rfl cellsOf4
    obtain ⟨y12, g12, m12⟩ : ∃ y, DataW.trod enc Try.prog w base spare held n 24 [c17] = some y ∧ _ := fld hf hlen 12 24 17 1 rfl cellsOf24
    obtain ⟨y13, g13, m13⟩ : ∃ y, DataW.trod enc Try.prog w base spare held n 59 [c18, c19, c20, c21, c22, c23, c24, c25] = some y ∧ _ := fld hf hlen 13 59 18 8 rfl cellsOf59
    obtain ⟨n0, k0, _, r0⟩ := DataW.trod_int Try.underlying24 g0
    have R0 : u64R n0 := by simpa [u64R, i64R, Lit.wf, IntKind.min, IntKind.max, IntKind.signed, IntKind.bits] using r0
    obtain ⟨n1, k1, _, r1⟩ := DataW.trod_int Try.underlying3 g1
    have R1 : i64R n1 := by simpa [u64R, i64R, Lit.wf, IntKind.min, IntKind.max, IntKind.signed, IntKind.bits] using r1
    obtain ⟨n2, A2, nn2, cc2, l2, k2, T2, Z2, R2⟩ := labelr_of_trod g2
    obtain ⟨n4, A4, nn4, cc4, l4, k4, T4, Z4, R4⟩ := labelr_of_trod g3
    obtain ⟨n6, k6, _, r6⟩ := DataW.trod_int Try.underlying3 g4
    have R6 : i64R n6 := by simpa [u64R, i64R, Lit.wf, IntKind.min, IntKind.max, IntKind.signed, IntKind.bits] using r6
    obtain ⟨n7, k7, _, r7⟩ := DataW.trod_int Try.underlying3 g5
    have R7 : i64R n7 := by simpa [u64R, i64R, Lit.wf, IntKind.min, IntKind.max, IntKind.signed, IntKind.bits] using r7
    obtain ⟨A8, nn8, cc8, l8, k8, T8, Z8, _⟩ := links_of_trod g6
    obtain ⟨A9, nn9, cc9, l9, k9, T9, Z9, _⟩ := bytes_of_trod g7
    obtain ⟨n10, n11, n12, n13, k10, R10, R11, R12, R13⟩ := regs_of_trod g8
    obtain ⟨n14, k14, _, r14⟩ := DataW.trod_int Try.underlying3 g9
    have R14 : i64R n14 := by simpa [u64R, i64R, Lit.wf, IntKind.min, IntKind.max, IntKind.signed, IntKind.bits] using r14
    obtain ⟨n15, k15, _, r15⟩ := DataW.trod_int Try.underlying3 g10
    have R15 : i64R n15 := by simpa [u64R, i64R, Lit.wf, IntKind.min, IntKind.max, IntKind.signed, IntKind.bits] using r15
    obtain ⟨n16, k16, _⟩ := DataW.trod_bool Try.underlying4 g11
    obtain ⟨n17, k17, _, r17⟩ := DataW.trod_int Try.underlying24 g12
    have R17 : u64R n17 := by simpa [u64R, i64R, Lit.wf, IntKind.min, IntKind.max, IntKind.signed, IntKind.bits] using r17
    obtain ⟨tt, k18, RS⟩ := slots4_of_trod g13
    simp only [List.cons.injEq, and_true] at k0 k1 k2 k4 k6 k7 k8 k9 k10 k14 k15 k16 k17
    simp only [fourL, List.cons.injEq, and_true] at k18
    obtain ⟨e2, e3⟩ := k2
    obtain ⟨e4, e5⟩ := k4
    obtain ⟨e10, e11, e12, e13⟩ := k10
    obtain ⟨e18, e19, e20, e21, e22, e23, e24, e25⟩ := k18
    subst k0 k1 k6 k7 k8 k9 k14 k15 k16 k17 e2 e3 e4 e5 e10 e11 e12 e13 e18 e19 e20 e21 e22 e23 e24 e25
    refine ⟨⟨n0, n1, n2, ⟨A2, nn2, cc2⟩, n4, ⟨A4, nn4, cc4⟩, n6, n7, ⟨A8, nn8, cc8⟩, ⟨A9, nn9, cc9⟩, n10, n11, n12, n13, n14, n15, n16, n17, tt.s0, tt.s1, tt.s2, tt.s3, tt.s4, tt.s5, tt.s6, tt.s7⟩, ⟨l2, l4, l8, l9⟩, rfl, ⟨T2, T4, T8, T9⟩, ⟨R0, R1, R2, R4, R6, R7, R10, R11, R12, R13, R14, R15, R17, RS.s0, RS.s1, RS.s2, RS.s3, RS.s4, RS.s5, RS.s6, RS.s7⟩, fun hh => ?_⟩
    subst hx
    exact ⟨Z2 (hh.field Try.underlying61 (j := 2) rfl m2), Z4 (hh.field Try.underlying61 (j := 3) rfl m3), Z8 (hh.field Try.underlying61 (j := 6) rfl m6), Z9 (hh.field Try.underlying61 (j := 7) rfl m7)⟩

theorem open_thing {r : Reach} (hv : Value.okWide Try.prog W r b0 61 v) (h : DataW.Trod enc Try.prog W base spare held 61 v d p) :
    ∃ (t : Th) (q : Tl), v = .agg (thC t) ∧ ThAt W t q ∧ ThR t ∧ (Fits 61 d → ThZ t) := by
  obtain ⟨fu, h⟩ := h
  obtain ⟨t, q, e, h1, h2, h3⟩ := th_of_trod h
  exact ⟨t, q, agg_of (k := 0) Try.underlying61 hv e, h1, h2, h3⟩
theorem open_ints2 {r : Reach} (hv : Value.okWide Try.prog W r b0 63 v) (h : DataW.Trod enc Try.prog W base spare held 63 v d p) :
    ∃ a b : Int, v = .agg #[.int .i64 a, .int .i64 b] ∧ i64R a ∧ i64R b := by
  obtain ⟨fu, h⟩ := h
  obtain ⟨a, b, e, h1, h2⟩ := ints2_of_trod h
  exact ⟨a, b, agg_arr Try.underlying63 hv e, h1, h2⟩
end
end Go.Proofs.Ytndohmimcbmhdaa

/- What the document's Right of a thing asks, kind by kind; loads of parts, elements of arrays. -/
set_option linter.unusedVariables false
set_option linter.unusedSimpArgs false
namespace Go.Proofs.Ytndohmimcbmhdaa
open Go.RowKit Go.Sort

/-- A part of a block is loaded. -/
theorem wpList_loadA {ops : Array Oper} {rest : List Oper} {a : Act} {w : World} {Q : Exit → Act → World → Prop} {d : Tmp} {x : Operand} {ty ty2 : TypeId} {p2 : String} {f2 : Array Edge} {g off : Nat} {t : TypeId} {cur : List Value} (vs : List Value) (hx : a.eval x = .pointer (some ⟨g, off, none⟩)) (hk : Blk w g t cur.toArray) (ha : ∀ u : World, (isAgg ty).run Try.prog u = .ok true u) (hs : (Try.prog.info? ty).map (·.size) = some vs.length) (hin : (cur.drop off).take vs.length = vs)
    (h : wpList Try.prog ops Q rest (a.put (some d) (.agg vs.toArray)) w) :
    wpList Try.prog ops Q ({ dst := some d, op := .load ty x, type := ty2, pos := p2, after := f2, guard := none } :: rest) a w := by
  refine Great.wpList_runTo rfl _ rfl (.agg vs.toArray) w ?_ h
  unfold execOp
  simp only [hx, Instr.loadAt, Instr.sureAddr, Sem.run_bind, Sem.run_pure, Result.andThen_ok, run_load_blk hk ha hs hin]
theorem sizeOf52 (w : World) : (sizeOf 52).run Try.prog w = .ok 2 w := by
  have h := size52
  unfold sizeOf typeInfo
  cases hq : Try.prog.info? 52 with
  | none => rw [hq] at h; cases h
  | some i =>
    rw [hq] at h
    have hi : i.size = 2 := by simpa using h
    simp [hq, hi]
theorem agg52 (w : World) : (isAgg 52).run Try.prog w = .ok true w := agg_of_struct Try.underlying52 w
/-- A slot of four. -/
theorem wpList_at59 {ops : Array Oper} {rest : List Oper} {a : Act} {w : World} {Q : Exit → Act → World → Prop} {d : Tmp} {x y : Operand} {ty1 : TypeId} {p1 : String} {f1 : Array Edge} (k : Nat) (t : Th) (u v : Int) (hz : (slotsL t)[k]? = some (u, v))
    (hx : a.eval x = .agg (fourL t).toArray) (hy : a.eval y = .int .i64 k)
    (h : wpList Try.prog ops Q rest (a.put (some d) (.agg #[.int .u64 u, .int .u64 v])) w) :
    wpList Try.prog ops Q ({ dst := some d, op := .index 59 x y, type := ty1, pos := p1, after := f1, guard := none } :: rest) a w := by
  have hk : k < 4 := by simpa [slotsL] using (List.getElem?_eq_some_iff.1 hz).1
  have hk4 : k = 0 ∨ k = 1 ∨ k = 2 ∨ k = 3 := by omega
  rcases hk4 with rfl | rfl | rfl | rfl <;>
  · obtain ⟨rfl, rfl⟩ := Prod.mk.inj (Option.some.inj hz)
    refine Great.wpList_runTo rfl _ rfl _ w ?_ h
    unfold execOp
    simp only [hx, hy]
    simp [Instr.index, Sem.run_bind, run_underlying Try.underlying59, part, sizeOf52, agg52, asIntOf, fourL]
/-- A register of four. -/
theorem wpList_at58 {ops : Array Oper} {rest : List Oper} {a : Act} {w : World} {Q : Exit → Act → World → Prop} {d : Tmp} {x y : Operand} {ty1 : TypeId} {p1 : String} {f1 : Array Edge} (k : Nat) (b0 b1 b2 b3 z : Int) (hz : [b0, b1, b2, b3][k]? = some z)
    (hx : a.eval x = .agg #[.int .u64 b0, .int .u64 b1, .int .u64 b2, .int .u64 b3]) (hy : a.eval y = .int .i64 k)
    (h : wpList Try.prog ops Q rest (a.put (some d) (.int .u64 z)) w) :
    wpList Try.prog ops Q ({ dst := some d, op := .index 58 x y, type := ty1, pos := p1, after := f1, guard := none } :: rest) a w := by
  have hk : k < 4 := by simpa using (List.getElem?_eq_some_iff.1 hz).1
  have hk4 : k = 0 ∨ k = 1 ∨ k = 2 ∨ k = 3 := by omega
  rcases hk4 with rfl | rfl | rfl | rfl <;>
  · obtain rfl := Option.some.inj hz
    refine Great.wpList_runTo rfl _ rfl _ w ?_ h
    unfold execOp
    simp only [hx, hy]
    simp [Instr.index, Sem.run_bind, run_underlying Try.underlying58, run_underlying Try.underlying24, part, isAgg, asIntOf]

def regsL (t : Th) : List Int := [t.r0, t.r1, t.r2, t.r3]
def strip5 (t : Th) : Th := { t with s0 := 0, s1 := 0, s2 := 0, s3 := 0, s4 := 0, s5 := 0, s6 := 0, s7 := 0 }
def strip2 (t : Th) : Th := { t with d2 := 0, l2 := ⟨none, 0, 0⟩, r0 := 0, r1 := 0, r2 := 0, r3 := 0, minted := 0, boot := 0, halt := false }
def strip3 (t : Th) : Th := { t with d2 := 0, l2 := ⟨none, 0, 0⟩, value := 0 }
def stl2 (p : Tl) : Tl := { p with l2 := [] }
theorem ThAt.s5 {w : World} {t : Th} {p : Tl} (h : ThAt w t p) : ThAt w (strip5 t) p := ⟨h.c1, h.c2, h.lk, h.dt⟩
theorem ThAt.s2 {w : World} {t : Th} {p : Tl} (h : ThAt w t p) : ThAt w (strip2 t) (stl2 p) := ⟨h.c1, CatsAt.nil_, h.lk, h.dt⟩
theorem ThAt.s3 {w : World} {t : Th} {p : Tl} (h : ThAt w t p) : ThAt w (strip3 t) (stl2 p) := ⟨h.c1, CatsAt.nil_, h.lk, h.dt⟩
def ageB (t : Th) : Bool := decide (0 ≤ t.minted) && (decide (t.minted ≤ 31) && (decide (0 ≤ t.boot) && decide (t.boot ≤ 255)))
def front71 (t : Th) (p : Tl) : Bool := namedB t.id && rightB t.d1 p.l1
def rref_5 (t : Th) (p : Tl) : Bool := (front71 t p && pureD t.d1 p.l1) && (!((slotsL t).any oddSlot) && ((t.quota == 1) && sameT (strip5 t) p (bare0 t) (bl0 p)))
def rref_2 (t : Th) (p : Tl) : Bool := front71 t p && (!((regsL t).any notCanon) && ((pureB t.d2 p.l2 && ageB t) && ((t.quota == 1) && sameT (strip2 t) (stl2 p) (bare0 t) (bl0 p))))
def rref_3 (t : Th) (p : Tl) : Bool := front71 t p && ((pureB t.d2 p.l2 && isCanon t.value) && ((t.quota == 1) && sameT (strip3 t) (stl2 p) (bare0 t) (bl0 p)))

/-- A thing made of a name, a kind, a label and a quota. -/
theorem loose_mk61 {o : Oper} {a : Act} {W : World} {x0 x1 x2 x4 : Operand} (t : Th) (ho : o.op = .build 61 #[(0, x0), (1, x1), (2, x2), (4, x4)]) (h0 : a.eval x0 = .int .u64 t.id) (h1 : a.eval x1 = .int .i64 t.kind) (h2 : a.eval x2 = .agg #[.int .i64 t.d1, .slice t.l1.a t.l1.n t.l1.c]) (h4 : a.eval x4 = .int .i64 t.quota) :
    looseUpon Try.prog nil_ (.val (.agg (thC (bare0 t)))) W ((execOp a.eval o).run Try.prog W) := by
  have hz := th_zero
  unfold execOp
  cases hq : Try.prog.info? 61 with
  | none => rw [hq] at hz; cases hz
  | some i =>
    rw [hq] at hz
    have hz' : i.zero = some thZ := hz
    simp only [ho, List.map_toArray, List.map_cons, List.map_nil, h0, h1, h2, h4]
    go_simp
    exact loose_val
/-- A part of a thing is stored. -/
theorem wpList_put61 {ops : Array Oper} {rest : List Oper} {a : Act} {w : World} {Q : Exit → Act → World → Prop} {x y : Operand} {ty ty2 : TypeId} {p2 : String} {f2 : Array Edge} (u0 u1 : Th) (g off : Nat) (v : Value) (vs : List Value) (hx : a.eval x = .pointer (some ⟨g, off, none⟩)) (hy : a.eval y = v) (hk : Blk w g 61 (thC u0)) (hv : v.cells = vs.toArray) (hs : (Try.prog.info? ty).map (·.size) = some vs.length) (hfit : off + vs.length ≤ 26) (h1 : ∀ u ∈ vs, u.oneCell' = true) (hsp : splice u0.cells off vs = u1.cells)
    (h : ∀ w', But (fun k => k = g) w w' → Blk w' g 61 (thC u1) → wpList Try.prog ops Q rest a w') :
    wpList Try.prog ops Q ({ dst := none, op := .store ty x y, type := ty2, pos := p2, after := f2, guard := none } :: rest) a w :=
  wpList_part (cur := u0.cells) vs hx hy hk hv hs hfit h1 fun w' hb hk' => h w' hb (by rw [hsp] at hk'; exact hk')
/-- A thing is loaded under a guard that holds. -/
theorem wpList_load61g {ops : Array Oper} {rest : List Oper} {a : Act} {w : World} {Q : Exit → Act → World → Prop} {d : Tmp} {x : Operand} {ty : TypeId} {p : String} {f : Array Edge} {gd : Option (Nat × Bool)} (t : Th) (g : Nat) (hw : Region.wanted { dst := some d, op := .load 61 x, type := ty, pos := p, after := f, guard := gd } (yielded ops a.tmps) = true) (hx : a.eval x = .pointer (some ⟨g, 0, none⟩)) (hk : Blk w g 61 (thC t))
    (h : wpList Try.prog ops Q rest (a.put (some d) (.agg (thC t))) w) : wpList Try.prog ops Q ({ dst := some d, op := .load 61 x, type := ty, pos := p, after := f, guard := gd } :: rest) a w := by
  have h1 := wpList_load61 (ops := ops) (Q := Q) (rest := rest) (d := d) (x := x) (ty := ty) (p := p) (f := f) t g hx hk h
  unfold wpList at h1 ⊢
  rw [if_pos hw]
  rw [if_pos (show Region.wanted { dst := some d, op := .load 61 x, type := ty, pos := p, after := f, guard := none } (yielded ops a.tmps) = true from rfl)] at h1
  exact h1
end Go.Proofs.Ytndohmimcbmhdaa
