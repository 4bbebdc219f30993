/- A list of numbers that comes in. -/
import Derived.Test.YtndohmimcbmhdaaNa0
import Derived.Test.YtndohmimcbmhdaaNb2
import Derived.Test.YtndohmimcbmhdaaNb3
set_option linter.unusedVariables false
set_option linter.unusedSimpArgs false
namespace Go.Proofs.Ytndohmimcbmhdaa
open Go.RowKit Go.ChangeShapes Go.WideShapes Go.Deep
set_option maxRecDepth 100000
/-- A slice value that reads as these numbers, below block B. -/
structure IntsAt (w : World) (B : Nat) (A : Option Addr) (n c : Nat) (bs : List Int) : Prop where
  len : bs.length = n
  cap : n ≤ c
  max : c ≤ maxLen
  fit : ∀ x ∈ bs, i64R x
  cells : 0 < n → ∃ b off, A = some ⟨b, off, none⟩ ∧ b < B ∧ ∀ i x, bs[i]? = some x → w.cell? ⟨b, off + i, none⟩ = some (.int .i64 x)
theorem IntsAt.nil_ {w : World} {B : Nat} : IntsAt w B none 0 0 [] := ⟨rfl, Nat.le_refl _, by simp [maxLen], (fun _ h => nomatch h), fun h => absurd h (by omega)⟩
theorem IntsAt.below {w w' : World} {B : Nat} {A : Option Addr} {n c : Nat} {bs : List Int} (h : IntsAt w B A n c bs) (hb : Below B w w') : IntsAt w' B A n c bs :=
  ⟨h.len, h.cap, h.max, h.fit, fun hn => by
    obtain ⟨b, off, e, hB, hc⟩ := h.cells hn
    exact ⟨b, off, e, hB, fun i x hx => (hb.cell (p := ⟨b, off + i, none⟩) hB).trans (hc i x hx)⟩⟩
theorem IntsAt.one {w : World} {B : Nat} {A : Option Addr} {n c : Nat} {bs : List Int} (h : IntsAt w B A n c bs) {k : Nat} (hk : k < n) : ∃ b off x, A = some ⟨b, off, none⟩ ∧ b < B ∧ bs[k]? = some x ∧ i64R x ∧ w.cell? ⟨b, off + k, none⟩ = some (.int .i64 x) := by
  obtain ⟨b, off, e, hB, hc⟩ := h.cells (by omega)
  have hx : bs[k]? = some (bs[k]'(by rw [h.len]; exact hk)) := List.getElem?_eq_getElem _
  exact ⟨b, off, _, e, hB, hx, h.fit _ (List.mem_of_getElem? hx), hc k _ hx⟩
theorem cellsOf80 : Try.prog.cellsOf 80 = 1 := by kernel_rfl
section
variable {H : Type} {enc : TypeId × Value → H} {w W : World} {base b0 : Nat} {spare : Nat → Bool} {held : Bool} {d : DataW H} {p : List MemPlace} {v : Value}
theorem int_of_trod {fuel : Nat} {cs : List Value} {x : DataW H × List MemPlace} (h : DataW.trod enc Try.prog w base spare held fuel 3 cs = some x) : ∃ a : Int, cs = [.int .i64 a] ∧ i64R a := by
  obtain ⟨a, k, _, r⟩ := DataW.trod_int Try.underlying3 h
  exact ⟨a, k, by simpa [u64R, i64R, Lit.wf, IntKind.min, IntKind.max, IntKind.signed, IntKind.bits] using r⟩
theorem ints_of_trod {fuel : Nat} {cs : List Value} {x : DataW H × List MemPlace} (h : DataW.trod enc Try.prog w base spare held fuel 80 cs = some x) :
    ∃ A n c l, cs = [.slice A n c] ∧ IntsAt w w.heap.size A n c l ∧ n + 1 ≤ Rows.uptoBulk x.1 := by
  rcases open_slice Try.underlying80 h with ⟨rfl, rfl⟩ | ⟨a, len, cap, m, n, D, Pl, rfl, hb, hl, hm, hmm, hx, hi⟩
  · exact ⟨none, 0, 0, [], rfl, IntsAt.nil_, bulk_one _⟩
  · have hle : len ≤ m := by rw [hmm]; split <;> omega
    have hch : ∀ i, i < len → ∃ t : Int, w.cell? ((a.add (i * 1)).add 0) = some (.int .i64 t) ∧ i64R t := by
      intro i hil
      obtain ⟨cs', hc, ht⟩ := hi i (by omega)
      rw [cellsOf3] at hc
      obtain ⟨p, rfl, r⟩ := int_of_trod ht
      obtain ⟨_, hcl, hat⟩ := World.cells?_some hc
      exact ⟨p, hat 0 (by omega), r⟩
    refine ⟨some a, len, cap, (List.range len).map (fun i => if hh : i < len then (hch i hh).choose else 0), rfl, ⟨by simp, hl, hm, fun x hx => ?_, fun hn => ?_⟩, ?_⟩
    · obtain ⟨i, hi, rfl⟩ := List.mem_map.1 hx
      have hil : i < len := List.mem_range.1 hi
      have := (hch i hil).choose_spec.2
      simp only [hil, dif_pos]
      exact this
    · have h0 := (hch 0 hn).choose_spec.1
      have e0 : (a.add (0 * 1)).add 0 = a := by simp [Addr.add]
      replace h0 := (congrArg w.cell? e0).symm.trans h0
      have hsp := World.cell?_spot h0
      obtain ⟨b, off, sp⟩ := a
      simp only at hsp
      subst hsp
      refine ⟨b, off, rfl, cell_lt h0, fun i t ht => ?_⟩
      have hil : i < len := by
        have := (List.getElem?_eq_some_iff.1 ht).1
        simpa using this
      have et : t = (if hh : i < len then (hch i hh).choose else 0) := by
        rw [List.getElem?_map, List.getElem?_range hil] at ht
        exact (Option.some.inj ht).symm
      rw [dif_pos hil] at et
      subst et
      have q := (hch i hil).choose_spec.1
      generalize (hch i hil).choose = t at q ⊢
      have ea : ((⟨b, off, none⟩ : Addr).add (i * 1)).add 0 = ⟨b, off + i, none⟩ := by
        unfold Addr.add
        by_cases h1 : i = 0 <;> simp [h1]
      rw [ea] at q
      exact q
    · rw [hx]
      have := bulk_slice ((List.range len).map D) ((List.range (m - len)).map fun j => D (len + j))
      simp only [List.length_map, List.length_range] at this
      simp only
      omega

theorem open_ints {r : Reach} (hv : Value.okWide Try.prog W r b0 80 v) (h : DataW.Trod enc Try.prog W base spare held 80 v d p) :
    ∃ A n c l, v = .slice A n c ∧ IntsAt W W.heap.size A n c l := by
  obtain ⟨A', n', c', rfl⟩ := okWide_slice Try.underlying80 hv
  obtain ⟨fu, h⟩ := h
  obtain ⟨A, n, c, l, e, hT, _⟩ := ints_of_trod h
  obtain ⟨rfl, rfl, rfl⟩ : A' = A ∧ n' = n ∧ c' = c := by simpa [Value.cells] using e
  exact ⟨A', n', c', l, rfl, hT⟩
end
end Go.Proofs.Ytndohmimcbmhdaa

/- By whom, when and as which one a category was made. -/
set_option linter.unusedVariables false
set_option linter.unusedSimpArgs false
namespace Go.Proofs.Ytndohmimcbmhdaa
open Go.RowKit Go.Sort

theorem and_mask (a : Int) (k M : Nat) (hm : M + 1 = 2 ^ k) (ha : 0 ≤ a) (hx : a < 18446744073709551616) (hM : M < 18446744073709551616) : bits .and .u64 a (M : Int) = a % ((M : Int) + 1) := by
  obtain ⟨x, rfl⟩ := Int.eq_ofNat_of_zero_le ha
  rw [u64_and_nat _ _ (by omega) (by omega)]
  have : x &&& M = x % (M + 1) := by
    have h := Nat.and_two_pow_sub_one_eq_mod x k
    rw [← hm] at h
    simpa using h
  rw [this, Int.natCast_emod, Int.natCast_add]
  rfl
set_option maxHeartbeats 2000000 in
theorem minter83 (w : World) (id b n c : Int) (hi0 : 1 ≤ id) (hi1 : id ≤ 281474976710655) (hb0 : 0 ≤ b) (hb1 : b ≤ 255) (hn0 : 0 ≤ n) (hn1 : n ≤ 31) (hc : c = id * 8192 + b * 32 + n) :
    Calls Try.prog 83 #[.int .u64 c] w fun e w' => e = .returned (.tuple #[.int .u64 id, .int .i64 b, .int .i64 n]) ∧ w = w' := by
  have e1 : c / 8192 = id := by omega
  have e2 : bits .and .u64 (c / 32) 255 = b := by
    have := and_mask (c / 32) 8 255 (by decide) (by omega) (by omega) (by decide)
    have e : (c / 32) % (((255 : Nat) : Int) + 1) = b := by omega
    exact this.trans e
  have e3 : bits .and .u64 c 31 = n := by
    have := and_mask c 5 31 (by decide) (by omega) (by omega) (by decide)
    have e : c % (((31 : Nat) : Int) + 1) = n := by omega
    exact this.trans e
  have w1 : IntKind.i64.wrap b = b := IntWalk.i64_in _ (by omega)
  have w2 : IntKind.i64.wrap n = n := IntWalk.i64_in _ (by omega)
  have w3 : wrap64 b = b := by unfold wrap64; omega
  have w4 : wrap64 n = n := by unfold wrap64; omega
  clear hc
  go_enter Try.func83, Try.ntmps83
  go_wp2
  go_ret3
  exact ⟨rfl, rfl⟩
/-- Of all that a thread has made, at which boot and as which. -/
def MadeBy (id boot minted s : Int) : Prop := ∃ b n : Int, s = id * 8192 + b * 32 + n ∧ 1 ≤ n ∧ n ≤ 31 ∧ 0 ≤ b ∧ b ≤ 255 ∧ (b < boot ∨ (b = boot ∧ n ≤ minted))
theorem MadeBy.mono {id b0 m0 b1 m1 s : Int} (h : MadeBy id b0 m0 s) (hb : b0 < b1 ∨ (b0 = b1 ∧ m0 ≤ m1)) : MadeBy id b1 m1 s := by
  obtain ⟨b, n, e, h1, h2, h3, h4, h5⟩ := h
  exact ⟨b, n, e, h1, h2, h3, h4, by omega⟩
/-- A new one is none of them. -/
theorem MadeBy.new {id b0 m0 B N s : Int} (h : MadeBy id b0 m0 s) (hB : 0 ≤ B ∧ B ≤ 255) (hN : 1 ≤ N ∧ N ≤ 31) (hlt : b0 < B ∨ (b0 = B ∧ m0 < N)) : s ≠ id * 8192 + B * 32 + N := by
  obtain ⟨b, n, e, h1, h2, h3, h4, h5⟩ := h
  omega
/-- Nor is it another's. -/
theorem MadeBy.other {id id' b0 m0 B N s : Int} (h : MadeBy id b0 m0 s) (hne : id ≠ id') (hB : 0 ≤ B ∧ B ≤ 255) (hN : 1 ≤ N ∧ N ≤ 31) : s ≠ id' * 8192 + B * 32 + N := by
  obtain ⟨b, n, e, h1, h2, h3, h4, h5⟩ := h
  omega
/-- A plain thread's labels with one category more are right. -/
theorem right_one {c v : Int} (h1 : 1 ≤ c) (h2 : c ≤ 2305843009213693951) (hv : v = 0 ∨ v = 4) : rightB 2 (formL 2 [(c, v)]) = true := by
  have hf : formL 2 [(c, v)] = [(c, v)] := by
    refine ((IsForm.is (d := 2) (cs := [(c, v)]) (F := [(c, v)]) ⟨?_, ?_, fun _ => rfl, Nat.le_refl _⟩)).symm
    · simp
    · intro x hx
      rw [List.mem_singleton] at hx
      subst hx
      rcases hv with rfl | rfl
      · exact (show (0 : Int) ≠ 2 by decide)
      · exact (show (4 : Int) ≠ 2 by decide)
  unfold rightB
  rw [hf, hf, decide_eq_true ⟨by decide, by decide, by simp⟩, Bool.true_and, show eqB [(c, v)] [(c, v)] = true from decide_eq_true rfl, Bool.true_and, Bool.not_eq_true']
  simp only [List.any_cons, List.any_nil, Bool.or_false]
  unfold oddC
  refine decide_eq_false ?_
  dsimp only
  rcases hv with rfl | rfl <;> omega
end Go.Proofs.Ytndohmimcbmhdaa

/- Two threads on the way: what each may have made. -/
set_option linter.unusedVariables false
set_option linter.unusedSimpArgs false
namespace Go.Proofs.Ytndohmimcbmhdaa
open Go.RowKit Go.Sort

/-- A thread on the way: its name, what it has minted, nothing else that takes room. -/
structure Apt (t0 T : Th) (B : Int) : Prop where
  id : T.id = t0.id
  lk : ∀ (W : World) (b : Nat), CatsAt W b T.links.a T.links.n T.links.c []
  dt : ∀ (W : World) (b : Nat), BytesAt W b T.data.a T.data.n T.data.c []
  m0 : 0 ≤ T.minted
  m1 : T.minted ≤ 31
  b0 : 0 ≤ T.boot
  b1 : T.boot ≤ B
theorem apt_start {w : World} {t : Th} {p : Tl} (h : ThAt w t p) (h2 : Right2 t p) : Apt t { t with boot := 0 } 1 := by
  obtain ⟨a1, a2, a3, a4⟩ := age_of h2.age
  have hl := h.lk
  have hd := h.dt
  rw [h2.bare.links] at hl
  rw [h2.bare.data] at hd
  exact ⟨rfl, fun W b => (CatsAt.void hl).2, fun W b => (BytesAt.void hd).2, a1, a2, Int.le_refl _, (by decide : (0 : Int) ≤ 1)⟩
theorem Apt.mono {t0 T : Th} {B B' : Int} (h : Apt t0 T B) (hb : B ≤ B') : Apt t0 T B' := ⟨h.id, h.lk, h.dt, h.m0, h.m1, h.b0, Int.le_trans h.b1 hb⟩
/-- With plain labels. -/
def plainT (T : Th) : Th := { T with d1 := 2, l1 := ⟨none, 0, 0⟩, d2 := 2, l2 := ⟨none, 0, 0⟩ }
theorem plainT_at {t0 T : Th} {B : Int} (h : Apt t0 T B) (W : World) : ThAt W (plainT T) emptyL := ⟨CatsAt.nil_, CatsAt.nil_, h.lk W _, h.dt W _⟩
theorem plainT_minty {t0 T : Th} {B B' : Int} (W : World) (h : Apt t0 T B) (hn : namedB t0.id = true) (h0 : 0 ≤ B') (h1 : B' ≤ 255) : Minty (plainT T) B' := by
  unfold namedB at hn
  have hn := of_decide_eq_true hn
  have e1 := (h.lk W 0).len
  have e2 := (h.dt W 0).len
  have e := h.id
  simp only [List.length_nil] at e1 e2
  refine ⟨?_, ?_, h0, h1, h.m0, h.m1, Nat.zero_le _, Nat.zero_le _, ?_, ?_⟩
  · show 1 ≤ T.id; omega
  · show T.id ≤ _; omega
  · show T.links.n ≤ _; omega
  · show T.data.n ≤ _; omega
def catOf (t0 T : Th) (B : Int) : Int := t0.id * 8192 + B * 32 + (mintN T B + 1)
/-- What Mint makes of it. -/
theorem plain_mint {t0 T : Th} {B B' : Int} (h : Apt t0 T B) (hn : namedB t0.id = true) (h0 : 0 ≤ B') (h1 : B' ≤ 255) :
    (31 ≤ mintN T B' ∧ mintO (plainT T) emptyL B' = ⟨plainT T, emptyL, 0, 182⟩) ∨
    ((0 ≤ mintN T B' ∧ mintN T B' < 31) ∧ mintO (plainT T) emptyL B' = ⟨{ plainT T with boot := B', minted := mintN T B' + 1 }, { emptyL with l1 := formL 2 [(catOf t0 T B', 0)], l2 := formL 2 [(catOf t0 T B', 4)] }, catOf t0 T B', 0⟩) := by
  unfold namedB at hn
  have hn := of_decide_eq_true hn
  have hN : 0 ≤ mintN T B' := by have := h.m0; unfold mintN; split <;> omega
  have ec : mintCat (plainT T) B' = catOf t0 T B' := by
    show T.id * 8192 + B' * 32 + (mintN T B' + 1) = _
    rw [h.id]; rfl
  by_cases h31 : 31 ≤ mintN T B'
  · refine .inl ⟨h31, ?_⟩
    unfold mintO
    rw [if_pos (show 31 ≤ mintN (plainT T) B' from h31)]
  · refine .inr ⟨⟨hN, by omega⟩, ?_⟩
    have hc1 : 1 ≤ catOf t0 T B' := by unfold catOf; omega
    have hc2 : catOf t0 T B' ≤ 2305843009213693951 := by unfold catOf; omega
    unfold mintO
    rw [if_neg (show ¬ 31 ≤ mintN (plainT T) B' from h31)]
    have r1 : rightB (plainT T).d1 (mintL (plainT T) emptyL B') = true := by
      show rightB 2 (formL 2 ((mintCat (plainT T) B', 0) :: [])) = true
      rw [ec]; exact right_one hc1 hc2 (.inl rfl)
    have r2 : rightB (plainT T).d2 (mintC (plainT T) emptyL B') = true := by
      show rightB 2 (formL 2 ((mintCat (plainT T) B', 4) :: [])) = true
      rw [ec]; exact right_one hc1 hc2 (.inr rfl)
    rw [r1, r2]
    show (⟨{ plainT T with boot := B', minted := mintN (plainT T) B' + 1 }, { emptyL with l1 := mintL (plainT T) emptyL B', l2 := mintC (plainT T) emptyL B' }, mintCat (plainT T) B', 0⟩ : Mi) = _
    have q1 : mintL (plainT T) emptyL B' = formL 2 [(catOf t0 T B', 0)] := by show formL 2 ((mintCat (plainT T) B', 0) :: []) = _; rw [ec]
    have q2 : mintC (plainT T) emptyL B' = formL 2 [(catOf t0 T B', 4)] := by show formL 2 ((mintCat (plainT T) B', 4) :: []) = _; rw [ec]
    rw [q1, q2, ec]
    rfl
theorem apt_next {t0 T : Th} {w : World} {B B' : Int} {p : Tl} {a b c d : Sl} (h : Apt t0 T B) (h0 : 0 ≤ B') (hN : 0 ≤ mintN T B' ∧ mintN T B' < 31) (ha : ThAt w (({ plainT T with boot := B', minted := mintN T B' + 1 } : Th).slices a b c d) p) (hl : p.links = []) (hd : p.data = []) :
    Apt t0 (({ plainT T with boot := B', minted := mintN T B' + 1 } : Th).slices a b c d) B' := by
  have h1 := ha.lk
  have h2 := ha.dt
  rw [hl] at h1
  rw [hd] at h2
  exact ⟨h.id, fun W b => (CatsAt.void h1).2, fun W b => (BytesAt.void h2).2, (by show 0 ≤ mintN T B' + 1; omega), (by show mintN T B' + 1 ≤ 31; omega), h0, Int.le_refl _⟩
/-- The new category, by its maker. -/
theorem made_now {t0 T : Th} {B B' : Int} (h : Apt t0 T B) (h0 : 0 ≤ B') (h1 : B' ≤ 255) (hN : 0 ≤ mintN T B' ∧ mintN T B' < 31) : MadeBy t0.id B' (mintN T B' + 1) (catOf t0 T B') :=
  ⟨B', mintN T B' + 1, rfl, by omega, by omega, h0, h1, .inr ⟨rfl, Int.le_refl _⟩⟩
theorem made_later {t0 T : Th} {B B' s : Int} (h : Apt t0 T B) (hB : B ≤ B') (hs : MadeBy t0.id T.boot T.minted s) : MadeBy t0.id B' (mintN T B' + 1) s := by
  refine hs.mono ?_
  have := h.b1
  unfold mintN
  split
  · rename_i e; exact .inr ⟨e, by omega⟩
  · rename_i e; exact .inl (by omega)
theorem new_own {t0 T : Th} {B B' s : Int} (h : Apt t0 T B) (hB : B ≤ B') (h0 : 0 ≤ B') (h1 : B' ≤ 255) (hN : 0 ≤ mintN T B' ∧ mintN T B' < 31) (hs : MadeBy t0.id T.boot T.minted s) : s ≠ catOf t0 T B' := by
  refine hs.new (B := B') (N := mintN T B' + 1) ⟨h0, h1⟩ ⟨by omega, by omega⟩ ?_
  have := h.b1
  unfold mintN
  split
  · rename_i e; exact .inr ⟨e, by omega⟩
  · rename_i e; exact .inl (by omega)
theorem new_other {t0 t1 T U : Th} {B' s : Int} (hne : t1.id ≠ t0.id) (h0 : 0 ≤ B') (h1 : B' ≤ 255) (hN : 0 ≤ mintN T B' ∧ mintN T B' < 31) (hs : MadeBy t1.id U.boot U.minted s) : s ≠ catOf t0 T B' :=
  hs.other hne ⟨h0, h1⟩ (N := mintN T B' + 1) ⟨by omega, by omega⟩
end Go.Proofs.Ytndohmimcbmhdaa
