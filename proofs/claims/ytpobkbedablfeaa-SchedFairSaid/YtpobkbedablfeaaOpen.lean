/- What a slice of things that came in holds. (Printed by genth.py.) -/
import Derived.Test.YtpobkbedablfeaaAlive
import Derived.Deep.Slices
import Derived.Lib.SmallJoins
namespace Go.Proofs.Ytpobkbedablfeaa
open Go.RowKit Go.ChangeShapes Go.WideShapes Go.Deep

theorem cellsOf59 : Try.prog.cellsOf 59 = 26 := by kernel_rfl
theorem cellsOf51 : Try.prog.cellsOf 51 = 2 := by kernel_rfl
theorem cellsOf22 : Try.prog.cellsOf 22 = 1 := by kernel_rfl
theorem cellsOf3 : Try.prog.cellsOf 3 = 1 := by kernel_rfl
theorem cellsOf4 : Try.prog.cellsOf 4 = 1 := by kernel_rfl
theorem cellsOf49 : Try.prog.cellsOf 49 = 1 := by kernel_rfl
theorem cellsOf52 : Try.prog.cellsOf 52 = 1 := by kernel_rfl
theorem cellsOf53 : Try.prog.cellsOf 53 = 1 := by kernel_rfl
theorem cellsOf54 : Try.prog.cellsOf 54 = 4 := by kernel_rfl
theorem cellsOf57 : Try.prog.cellsOf 57 = 8 := by kernel_rfl
theorem cellsOf56 : Try.prog.cellsOf 56 = 2 := by kernel_rfl

theorem cell_lt {w : World} {a : Addr} {v : Value} (h : w.cell? a = some v) : a.block < w.heap.size := by
  rcases Nat.lt_or_ge a.block w.heap.size with hl | hl
  · exact hl
  · simp [World.cell?, Array.getElem?_eq_none hl] at h

section
variable {H : Type} {enc : TypeId × Value → H} {w : World} {base : Nat} {spare : Nat → Bool} {held : Bool}
theorem got {α : Type} {xs : List α} {n i : Nat} {o : Option α} (hl : xs.length = n) (hi : i < n) (h : o = xs[i]?) : ∃ y, o = some y := ⟨xs[i], by rw [h]; exact List.getElem?_eq_getElem (by omega)⟩
theorem fld {fs : Array Field} {xs : List (DataW H × List MemPlace)} {cs : List Value} {n : Nat} (hf : ∀ (i : Nat) (f : Field), fs[i]? = some f → DataW.trod enc Try.prog w base spare held n f.type ((cs.drop f.offset).take (Try.prog.cellsOf f.type)) = xs[i]?) (hl : xs.length = fs.size)
    (i T off k : Nat) (hT : fs[i]?.map (fun f => (f.type, f.offset)) = some (T, off)) (hk : Try.prog.cellsOf T = k) : ∃ y, DataW.trod enc Try.prog w base spare held n T ((cs.drop off).take k) = some y := by
  cases h : fs[i]? with
  | none => rw [h] at hT; cases hT
  | some f =>
    rw [h] at hT
    simp only [Option.map_some, Option.some.injEq, Prod.mk.injEq] at hT
    obtain ⟨rfl, rfl⟩ := hT
    subst hk
    have hi : i < fs.size := (Array.getElem?_eq_some_iff.1 h).1
    exact ⟨_, (hf i f h).trans (List.getElem?_eq_getElem (by omega))⟩
theorem cell_slice {P : Program} {t e : TypeId} {fuel : Nat} {cs : List Value} {x : DataW H × List MemPlace} (ht : P.underlying t = some (.slice e)) (h : DataW.trod enc P w base spare held fuel t cs = some x) : ∃ s : Sl, cs = [.slice s.a s.n s.c] := by
  rcases DataW.trod_slice ht h with ⟨rfl, _⟩ | ⟨a, len, cap, _, _, _, _, rfl, _⟩
  · exact ⟨⟨none, 0, 0⟩, rfl⟩
  · exact ⟨⟨some a, len, cap⟩, rfl⟩
theorem label_of_trod {fuel : Nat} {c0 c1 : Value} {x : DataW H × List MemPlace} (h : DataW.trod enc Try.prog w base spare held fuel 51 [c0, c1] = some x) : ∃ (d : Int) (s : Sl), c0 = .int .i64 d ∧ c1 = .slice s.a s.n s.c := by
  obtain ⟨xs, n, _, _, hl, hlen, hf⟩ := DataW.trod_struct Try.underlying51 h
  obtain ⟨y0, g0⟩ : ∃ y, DataW.trod enc Try.prog w base spare held n 3 [c0] = some y := fld hf hlen 0 3 0 1 rfl cellsOf3
  obtain ⟨y1, g1⟩ : ∃ y, DataW.trod enc Try.prog w base spare held n 49 [c1] = some y := fld hf hlen 1 49 1 1 rfl cellsOf49
  obtain ⟨d, k0, _, _⟩ := DataW.trod_int Try.underlying3 g0
  obtain ⟨s, k1⟩ := cell_slice Try.underlying49 g1
  exact ⟨d, s, by simpa using k0, by simpa using k1⟩
theorem pair_of_trod {fuel : Nat} {c0 c1 : Value} {x : DataW H × List MemPlace} (h : DataW.trod enc Try.prog w base spare held fuel 56 [c0, c1] = some x) : ∃ d s : Int, c0 = .int .u64 d ∧ c1 = .int .u64 s := by
  obtain ⟨xs, n, _, _, hl, hlen, hf⟩ := DataW.trod_struct Try.underlying56 h
  obtain ⟨y0, g0⟩ : ∃ y, DataW.trod enc Try.prog w base spare held n 22 [c0] = some y := fld hf hlen 0 22 0 1 rfl cellsOf22
  obtain ⟨y1, g1⟩ : ∃ y, DataW.trod enc Try.prog w base spare held n 22 [c1] = some y := fld hf hlen 1 22 1 1 rfl cellsOf22
  obtain ⟨d, k0, _, _⟩ := DataW.trod_int Try.underlying22 g0
  obtain ⟨s, k1, _, _⟩ := DataW.trod_int Try.underlying22 g1
  exact ⟨d, s, by simpa using k0, by simpa using k1⟩

set_option maxHeartbeats 1000000 in
theorem th_of_trod {fuel : Nat} {cs : List Value} {x : DataW H × List MemPlace} (h : DataW.trod enc Try.prog w base spare held fuel 59 cs = some x) : ∃ t : Th, cs = t.cells := by
  obtain ⟨xs, n, _, _, hl, hlen, hf⟩ := DataW.trod_struct Try.underlying59 h
  rw [cellsOf59] at hl
  match cs, hl with
  | [c0, c1, c2, c3, c4, c5, c6, c7, c8, c9, c10, c11, c12, c13, c14, c15, c16, c17, c18, c19, c20, c21, c22, c23, c24, c25], _ =>
    obtain ⟨y0, g0⟩ : ∃ y, DataW.trod enc Try.prog w base spare held n 22 [c0] = some y := fld hf hlen 0 22 0 1 rfl cellsOf22
    obtain ⟨y1, g1⟩ : ∃ y, DataW.trod enc Try.prog w base spare held n 3 [c1] = some y := fld hf hlen 1 3 1 1 rfl cellsOf3
    obtain ⟨y2, g2⟩ : ∃ y, DataW.trod enc Try.prog w base spare held n 51 [c2, c3] = some y := fld hf hlen 2 51 2 2 rfl cellsOf51
    obtain ⟨y3, g3⟩ : ∃ y, DataW.trod enc Try.prog w base spare held n 51 [c4, c5] = some y := fld hf hlen 3 51 4 2 rfl cellsOf51
    obtain ⟨y4, g4⟩ : ∃ y, DataW.trod enc Try.prog w base spare held n 3 [c6] = some y := fld hf hlen 4 3 6 1 rfl cellsOf3
    obtain ⟨y5, g5⟩ : ∃ y, DataW.trod enc Try.prog w base spare held n 3 [c7] = some y := fld hf hlen 5 3 7 1 rfl cellsOf3
    obtain ⟨y6, g6⟩ : ∃ y, DataW.trod enc Try.prog w base spare held n 52 [c8] = some y := fld hf hlen 6 52 8 1 rfl cellsOf52
    obtain ⟨y7, g7⟩ : ∃ y, DataW.trod enc Try.prog w base spare held n 53 [c9] = some y := fld hf hlen 7 53 9 1 rfl cellsOf53
    obtain ⟨y8, g8⟩ : ∃ y, DataW.trod enc Try.prog w base spare held n 54 [c10, c11, c12, c13] = some y := fld hf hlen 8 54 10 4 rfl cellsOf54
    obtain ⟨y9, g9⟩ : ∃ y, DataW.trod enc Try.prog w base spare held n 3 [c14] = some y := fld hf hlen 9 3 14 1 rfl cellsOf3
    obtain ⟨y10, g10⟩ : ∃ y, DataW.trod enc Try.prog w base spare held n 3 [c15] = some y := fld hf hlen 10 3 15 1 rfl cellsOf3
    obtain ⟨y11, g11⟩ : ∃ y, DataW.trod enc Try.prog w base spare held n 4 [c16] = some y := fld hf hlen 11 4 16 1 rfl cellsOf4
    obtain ⟨y12, g12⟩ : ∃ y, DataW.trod enc Try.prog w base spare held n 22 [c17] = some y := fld hf hlen 12 22 17 1 rfl cellsOf22
    obtain ⟨y13, g13⟩ : ∃ y, DataW.trod enc Try.prog w base spare held n 57 [c18, c19, c20, c21, c22, c23, c24, c25] = some y := fld hf hlen 13 57 18 8 rfl cellsOf57
    obtain ⟨n0, k0, _, _⟩ := DataW.trod_int Try.underlying22 g0
    obtain ⟨n1, k1, _, _⟩ := DataW.trod_int Try.underlying3 g1
    obtain ⟨n2, n3, rfl, rfl⟩ := label_of_trod g2
    obtain ⟨n4, n5, rfl, rfl⟩ := label_of_trod g3
    obtain ⟨n6, k6, _, _⟩ := DataW.trod_int Try.underlying3 g4
    obtain ⟨n7, k7, _, _⟩ := DataW.trod_int Try.underlying3 g5
    obtain ⟨n8, k8⟩ := cell_slice Try.underlying52 g6
    obtain ⟨n9, k9⟩ := cell_slice Try.underlying53 g7
    obtain ⟨rs, m8, _, _, _, rl, rf⟩ := DataW.trod_array Try.underlying54 g8
    rw [cellsOf22] at rf
    obtain ⟨z0, r0⟩ : ∃ y, DataW.trod enc Try.prog w base spare held m8 22 [c10] = some y := got rl (by decide) (rf 0 (by decide))
    obtain ⟨z1, r1⟩ : ∃ y, DataW.trod enc Try.prog w base spare held m8 22 [c11] = some y := got rl (by decide) (rf 1 (by decide))
    obtain ⟨z2, r2⟩ : ∃ y, DataW.trod enc Try.prog w base spare held m8 22 [c12] = some y := got rl (by decide) (rf 2 (by decide))
    obtain ⟨z3, r3⟩ : ∃ y, DataW.trod enc Try.prog w base spare held m8 22 [c13] = some y := got rl (by decide) (rf 3 (by decide))
    obtain ⟨n10, k10, _, _⟩ := DataW.trod_int Try.underlying22 r0
    obtain ⟨n11, k11, _, _⟩ := DataW.trod_int Try.underlying22 r1
    obtain ⟨n12, k12, _, _⟩ := DataW.trod_int Try.underlying22 r2
    obtain ⟨n13, k13, _, _⟩ := DataW.trod_int Try.underlying22 r3
    obtain ⟨n14, k14, _, _⟩ := DataW.trod_int Try.underlying3 g9
    obtain ⟨n15, k15, _, _⟩ := DataW.trod_int Try.underlying3 g10
    obtain ⟨n16, k16, _⟩ := DataW.trod_bool Try.underlying4 g11
    obtain ⟨n17, k17, _, _⟩ := DataW.trod_int Try.underlying22 g12
    obtain ⟨ss, m13, _, _, _, sl, sf⟩ := DataW.trod_array Try.underlying57 g13
    rw [cellsOf56] at sf
    obtain ⟨u0, s0⟩ : ∃ y, DataW.trod enc Try.prog w base spare held m13 56 [c18, c19] = some y := got sl (by decide) (sf 0 (by decide))
    obtain ⟨u1, s1⟩ : ∃ y, DataW.trod enc Try.prog w base spare held m13 56 [c20, c21] = some y := got sl (by decide) (sf 1 (by decide))
    obtain ⟨u2, s2⟩ : ∃ y, DataW.trod enc Try.prog w base spare held m13 56 [c22, c23] = some y := got sl (by decide) (sf 2 (by decide))
    obtain ⟨u3, s3⟩ : ∃ y, DataW.trod enc Try.prog w base spare held m13 56 [c24, c25] = some y := got sl (by decide) (sf 3 (by decide))
    obtain ⟨n18, n19, rfl, rfl⟩ := pair_of_trod s0
    obtain ⟨n20, n21, rfl, rfl⟩ := pair_of_trod s1
    obtain ⟨n22, n23, rfl, rfl⟩ := pair_of_trod s2
    obtain ⟨n24, n25, rfl, rfl⟩ := pair_of_trod s3
    simp only [List.cons.injEq, and_true] at k0 k1 k6 k7 k8 k9 k10 k11 k12 k13 k14 k15 k16 k17
    subst k0 k1 k6 k7 k8 k9 k10 k11 k12 k13 k14 k15 k16 k17
    exact ⟨⟨n0, n1, n2, n3, n4, n5, n6, n7, n8, n9, n10, n11, n12, n13, n14, n15, n16, n17, n18, n19, n20, n21, n22, n23, n24, n25⟩, rfl⟩

theorem things_of_trod {fuel : Nat} {cs : List Value} {x : DataW H × List MemPlace} (h : DataW.trod enc Try.prog w base spare held fuel 32 cs = some x) : ∃ A n c ts, cs = [.slice A n c] ∧ ThingsAt w w.heap.size A n c ts := by
  rcases open_slice Try.underlying32 h with ⟨rfl, _⟩ | ⟨a, len, cap, m, n, D, Pl, rfl, hb, hl, hm, hmm, hx, hi⟩
  · exact ⟨none, 0, 0, [], rfl, ⟨rfl, Nat.le_refl _, by simp [maxLen], fun h => absurd h (by omega)⟩⟩
  · have hle : len ≤ m := by rw [hmm]; split <;> omega
    have hch : ∀ i, i < len → ∃ t : Th, ∀ (j : Nat) (v : Value), t.cells[j]? = some v → w.cell? ((a.add (i * 26)).add j) = some v := by
      intro i hil
      obtain ⟨cs', hc, ht⟩ := hi i (by omega)
      rw [cellsOf59] at hc
      obtain ⟨t, rfl⟩ := th_of_trod ht
      obtain ⟨_, hcl, hat⟩ := World.cells?_some hc
      exact ⟨t, fun j v hv => by
        have hj : j < 26 := (List.getElem?_eq_some_iff.1 hv).1
        rw [hat j hj, hv]⟩
    refine ⟨some a, len, cap, (List.range len).map (fun i => if hh : i < len then (hch i hh).choose else ⟨0, 0, 0, ⟨none, 0, 0⟩, 0, ⟨none, 0, 0⟩, 0, 0, ⟨none, 0, 0⟩, ⟨none, 0, 0⟩, 0, 0, 0, 0, 0, 0, false, 0, 0, 0, 0, 0, 0, 0, 0, 0⟩), rfl, ⟨by simp, hl, hm, fun hn => ?_⟩⟩
    have h0 := (hch 0 hn).choose_spec 0 _ rfl
    have e0 : (a.add (0 * 26)).add 0 = a := by simp [Addr.add]
    replace h0 := (congrArg w.cell? e0).symm.trans h0
    have hsp := World.cell?_spot h0
    obtain ⟨b, off, sp⟩ := a
    simp only at hsp
    subst hsp
    refine ⟨b, off, rfl, ?_, fun i t ht j v hv => ?_⟩
    · exact cell_lt h0
    · have hil : i < len := by
        have := (List.getElem?_eq_some_iff.1 ht).1
        simpa using this
      have et : t = (hch i hil).choose := by
        simp [hil] at ht
        exact ht.symm
      subst et
      have := (hch i hil).choose_spec j v hv
      have ea : ((⟨b, off, none⟩ : Addr).add (i * 26)).add j = ⟨b, off + i * 26 + j, none⟩ := by
        unfold Addr.add
        by_cases h1 : i * 26 = 0 <;> by_cases h2 : j = 0 <;> simp [h1, h2]
      rw [ea] at this
      exact this
end
end Go.Proofs.Ytpobkbedablfeaa
