/- The same for a region whose order is the text's. -/
import Derived.Test.YtndohmimcbmhdaaMz11
import Derived.Test.YtndohmimcbmhdaaMz16
set_option linter.unusedVariables false
set_option linter.unusedSimpArgs false
namespace Go.Proofs.Ytndohmimcbmhdaa
open Go.RowKit

theorem lay_vals {ops : Array Oper} {a : Act} {S : Nat → Leaves} {vs vs' : Nat → Value} : ∀ i, (∀ j, j < i → vs j = vs' j) → lay ops a S vs i = lay ops a S vs' i := by
  intro i
  induction i with
  | zero => intro _; rfl
  | succ i ih => intro h; rw [lay, lay, ih fun j hj => h j (by omega), h i (by omega)]

theorem wp_list_lax {P : Program} {ops : Array Oper} {N : Nat} {a : Act} {D : Nat → Prop} {w : World} {S : Nat → Leaves} {Q : Exit → Act → World → Prop} (hN : N ≤ ops.size) (hL : Lax P ops N a D w S)
    (hQ : ∀ vs W, But D w W → (∀ j, j < N → (S j).isFrail = false → (S j).okk W (vs j)) → (∀ j k, j < N → k < N → j ≠ k → (S j).isFresh = true → (S k).isFresh = true → blockOf (vs j) ≠ blockOf (vs k)) → (∀ j C, j < N → S j = .write C → (∀ k, k < N → (S k).isWr = true → k ≤ j) → C W) → wpList P ops Q (ops.toList.drop N) (lay ops a S vs N) W) :
    ∀ (m i : Nat) (vs : Nat → Value) (W : World), i + m = N → But D w W → ((∀ k, k < i → (S k).dirty = false) → But nil_ w W) →
      (∀ j, j < i → ((S j).isFrail = true → ∀ k, k < i → (S k).dirty = false) → (S j).okk W (vs j)) →
      (∀ j C, j < i → S j = .write C → (∀ k, k < i → (S k).isWr = true → k ≤ j) → C W) →
      (∀ j k, j < i → k < i → j ≠ k → (S j).isFresh = true → (S k).isFresh = true → blockOf (vs j) ≠ blockOf (vs k)) → wpList P ops Q (ops.toList.drop i) (lay ops a S vs i) W := by
  intro m
  induction m with
  | zero =>
    intro i vs W hi hb _ hok hlast hap
    obtain rfl : i = N := by omega
    exact hQ vs W hb (fun j hj hf => hok j hj fun hx => by rw [hf] at hx; cases hx) hap hlast
  | succ m ih =>
    intro i vs W hi hb hcalm hok hlast hap
    have hiN : i < N := by omega
    have his : i < ops.size := by omega
    have hdrop : ops.toList.drop i = ops[i] :: ops.toList.drop (i + 1) := by
      rw [List.drop_eq_getElem_cons (by simpa using his)]
      simp
    have ho : ops[i]? = some ops[i] := Array.getElem?_eq_getElem his
    rw [hdrop]
    generalize ops[i] = o at *
    have hnext : ∀ u W', But ((S i).dis D) W W' → (S i).ok W' u → (S i).born W u → wpList P ops Q (ops.toList.drop (i + 1)) ((lay ops a S vs i).put o.dst u) W' := by
      intro u W' hbu hku hborn
      have hlay : (lay ops a S vs i).put o.dst u = lay ops a S (fun j => if j = i then u else vs j) (i + 1) := by
        rw [lay, lay_vals i (vs' := vs) fun j hj => if_neg (by omega)]
        simp only [dstOf, ho, Option.bind_some, if_true]
        rw [Leaves.at_ok (Leaves.ok_okk hku)]
      rw [hlay]
      have hbW := hb.trans hbu.dis
      refine ih (i + 1) _ W' (by omega) hbW (fun hc => ?_) (fun j hj hfr => ?_) (fun j C hj hC hls => ?_) (fun j k hj hk hne hfj hfk => ?_)
      · exact (hcalm fun k hk => hc k (by omega)).trans (Leaves.clean_dis hbu (hc i (by omega)))
      · by_cases e : j = i
        · subst e; simpa using Leaves.ok_okk hku
        · skip
          rw [if_neg e]
          have hji : j < i := by omega
          have hk := hok j hji fun hx k hk => hfr hx k (by omega)
          have hst := hL.stable j (by omega)
          cases hs : S j with
          | val v => rw [hs] at hk; exact hk
          | write C => rw [hs] at hk; exact hk
          | early v => rw [hs] at hk; exact hk
          | rel R => rw [hs] at hst hk; exact hst W W' _ hb hbu.dis hk
          | fresh R =>
            rw [hs] at hst hk
            obtain ⟨hk, b, eb, hlb⟩ := hk
            exact ⟨hst W W' _ hb hbu.dis hk, b, eb, Nat.lt_of_lt_of_le hlb hbu.size⟩
          | own R =>
            rw [hs] at hst hk
            refine hst W W' _ hb (Leaves.clean_dis hbu ?_) hk
            cases hdi : (S i).dirty with
            | false => rfl
            | true => exact absurd (hL.one (by omega) hiN (by rw [hs]; rfl) hdi) e
          | frail R =>
            rw [hs] at hst hk
            refine hst W W' _ hb (Leaves.clean_dis hbu ?_) hk
            exact hfr (by rw [hs]; rfl) i (by omega)
      · by_cases e : j = i
        · subst e
          rw [hC] at hku
          exact hku.2
        · have hst := hL.stable j (by omega)
          rw [hC] at hst
          have hnd : (S i).dirty = false := by
            cases hdi : (S i).dirty with
            | false => rfl
            | true =>
              have hw := (hL.own j i (by omega) hiN (by rw [hC]; rfl) hdi (by omega)).2.1
              have := hls i (by omega) hw
              omega
          exact hst W W' hb (Leaves.clean_dis hbu hnd) (hlast j C (by omega) hC fun k hk hkw => hls k (by omega) hkw)
      · have hlow : ∀ k, k < i → (S k).isFresh = true → ∃ b, blockOf (vs k) = some b ∧ b < W.heap.size := fun k hk hfk =>
          Leaves.fresh_ok hfk (hok k hk fun hx => (Leaves.fresh_not_frail hfk hx).elim)
        by_cases e1 : j = i
        · have e2 : k ≠ i := fun e2 => hne (e1.trans e2.symm)
          rw [if_pos e1, if_neg e2]
          obtain ⟨b, eb, hb1⟩ := Leaves.fresh_born (by rw [← e1]; exact hfj) hborn
          obtain ⟨b', eb', hb'⟩ := hlow k (by omega) hfk
          rw [eb, eb']
          intro he
          injection he with he
          omega
        · by_cases e2 : k = i
          · rw [if_neg e1, if_pos e2]
            obtain ⟨b, eb, hb1⟩ := Leaves.fresh_born (by rw [← e2]; exact hfk) hborn
            obtain ⟨b', eb', hb'⟩ := hlow j (by omega) hfj
            rw [eb, eb']
            intro he
            injection he with he
            omega
          · rw [if_neg e1, if_neg e2]
            exact hap j k (by omega) (by omega) hne hfj hfk
    unfold wpList
    rcases hL.run i o hiN ho with ⟨hw, hrun⟩ | ⟨hw, hund⟩
    · rw [if_pos (hw vs)]
      refine .inl (wp_of_loose (D' := (S i).dis D) (s := S i) ?_ fun u W' h1 h2 h3 => hnext u W' h1 h2 h3)
      refine hrun vs W hb (fun hx => hcalm fun k hk => ?_) (fun hwr => ⟨fun hno => hcalm fun k hk => ?_, fun j C hji hC hno => ?_⟩) fun e he hbd hlt hfr => hok e.on hlt fun hx k hk => ?_
      · cases hq : (S k).dirty with
        | false => rfl
        | true =>
          rcases Leaves.calm_or hx with hx | hx
          · have := hL.one hiN (by omega) hx hq; omega
          · have := (hL.early i k hiN (by omega) hx hq).1; omega
      · cases hq : (S k).dirty with
        | false => rfl
        | true =>
          have := (hL.own k i (by omega) hiN hq (Leaves.wr_dirty hwr) hk).1
          rw [hno k hk] at this; cases this
      · refine hlast j C hji hC fun k hk hkw => ?_
        rcases Nat.lt_or_ge j k with h1 | h1
        · have := hno k h1 hk
          rw [hkw] at this; cases this
        · exact h1
      · cases hq : (S k).dirty with
        | false => rfl
        | true => have := hL.one hiN (by omega) (hfr hx) hq; omega
    · rw [if_neg (by rw [hw vs]; exact Bool.false_ne_true)]
      exact hnext undef W (But.refl _ _) (by rw [hund]; rfl) (by rw [hund]; trivial)

/-- **A region in the text's order, told one by one.** -/
theorem wp_list_toldw {P : Program} {Q : Exit → Act → World → Prop} {a : Act} {w : World} {l : List Oper} (M N : Nat) (D : Nat → Prop) (hM : l.length = M) (hN : N ≤ M)
    (h : wpTold P l.toArray D w (fun sp G => ∀ vs W, But D w W → (∀ (j : Nat) (s : Leaves), sp[j]? = some s → s.isFrail = false → s.okk W (vs j)) → (∀ (j k : Nat) (s s' : Leaves), sp[j]? = some s → sp[k]? = some s' → j ≠ k → s.isFresh = true → s'.isFresh = true → blockOf (vs j) ≠ blockOf (vs k)) → (∀ (j : Nat) (C : World → Prop), sp[j]? = some (.write C) → (∀ (k : Nat) (x : Leaves), j < k → sp[k]? = some x → x.isWr = false) → C W) → wpList P l.toArray Q (l.drop N) (G vs) W) 0 (l.take N) [] (fun _ => a)) : wpList P l.toArray Q l a w := by
  obtain ⟨sp, G, hL, hlen, hG, hQ⟩ := lax_of_told (a := a) (l.take N) [] (fun _ => a) (fun j => by
      simp only [List.length_nil, Nat.zero_add, List.length_take, List.getElem?_toArray]
      by_cases h : j < N
      · rw [List.getElem?_take_of_lt h]
        split
        · rfl
        · rw [List.getElem?_eq_none (by omega)]
      · rw [List.getElem?_eq_none (by simp; omega), if_neg (by omega)]) (fun j hj => absurd hj (by simp)) (fun i j hi => absurd hi (by simp)) (fun i j hi => absurd hi (by simp)) (fun vs => rfl) (fun i o hi => absurd hi (by simp)) h
  have e : ([] : List Leaves).length + (l.take N).length = N := by simp; omega
  rw [e] at hL hlen
  refine (wp_list_lax (P := P) (ops := l.toArray) (Q := Q) (by simp; omega) hL (fun vs W hW hok hap hwr => ?_) N 0 (fun _ => undef) w (by omega) (But.refl _ _) (fun _ => But.refl _ _) (fun j hj => absurd hj (by omega)) (fun j C hj => absurd hj (by omega)) (fun j k hj => absurd hj (by omega)))
  have := hQ vs W hW (fun j s hs hf => by
    have hj : j < N := by have := (List.getElem?_eq_some_iff.1 hs).1; omega
    have hse : listS sp j = s := by simp [listS, hs]
    have := hok j hj
    rw [hse] at this
    exact this hf) (fun j k s s' hs hs' hne hf hf' => by
    have hj : j < N := by have := (List.getElem?_eq_some_iff.1 hs).1; omega
    have hk : k < N := by have := (List.getElem?_eq_some_iff.1 hs').1; omega
    have e1 : listS sp j = s := by simp [listS, hs]
    have e2 : listS sp k = s' := by simp [listS, hs']
    exact hap j k hj hk hne (by rw [e1]; exact hf) (by rw [e2]; exact hf')) (fun j C hC hno => by
    have hj : j < N := by have := (List.getElem?_eq_some_iff.1 hC).1; omega
    refine hwr j C hj (by simp [listS, hC]) fun k hk hkw => ?_
    rcases Nat.lt_or_ge j k with h1 | h1
    · have hks : sp[k]? = some (listS sp k) := by simp [listS, List.getElem?_eq_getElem (show k < sp.length by omega)]
      have := hno k _ h1 hks
      rw [hkw] at this; cases this
    · exact h1)
  rw [hG vs, hlen] at this
  exact this
/-- **A region in the text's order, told one by one.** -/
theorem wp_list_told {P : Program} {Q : Exit → Act → World → Prop} {a : Act} {w : World} {l : List Oper} (M N : Nat) (D : Nat → Prop) (hM : l.length = M) (hN : N ≤ M)
    (h : wpTold P l.toArray D w (fun sp G => ∀ vs W, But D w W → (∀ (j : Nat) (s : Leaves), sp[j]? = some s → s.isFrail = false → s.okk W (vs j)) → (∀ (j k : Nat) (s s' : Leaves), sp[j]? = some s → sp[k]? = some s' → j ≠ k → s.isFresh = true → s'.isFresh = true → blockOf (vs j) ≠ blockOf (vs k)) → wpList P l.toArray Q (l.drop N) (G vs) W) 0 (l.take N) [] (fun _ => a)) : wpList P l.toArray Q l a w :=
  wp_list_toldw M N D hM hN (wpTold_mono (fun sp G hq vs W hW hok hap _ => hq vs W hW hok hap) _ _ _ _ h)
end Go.Proofs.Ytndohmimcbmhdaa

/- Operations whose guard is open: what they leave by the guard's value. -/
set_option linter.unusedVariables false
set_option linter.unusedSimpArgs false
namespace Go.Proofs.Ytndohmimcbmhdaa
open Go.RowKit

section
variable {P : Program} {ops : Array Oper} {D : Nat → Prop} {w : World} {Q : List Leaves → ((Nat → Value) → Act) → Prop} {i : Nat} {o : Oper} {rest : List Oper} {sp : List Leaves} {G : (Nat → Value) → Act}
theorem told_maybe {b : Bool} {v : Value} (hw : ∀ vs, Region.wanted o (yielded ops (G vs).tmps) = b) (hr : b = true → ∀ vs W, But D w W → looseUpon P nil_ (.val v) W ((execOp (G vs).eval o).run P W))
    (h : wpTold P ops D w Q (i + 1) rest (sp ++ [.val (bif b then v else undef)]) (fun vs => (G vs).put o.dst (bif b then v else undef))) : wpTold P ops D w Q i (o :: rest) sp G := by
  cases b with
  | true => exact told_val hw (hr rfl) h
  | false => exact told_off hw h
theorem told_not {b : Bool} {v : Value} (hw : ∀ vs, Region.wanted o (yielded ops (G vs).tmps) = !b) (hr : b = false → ∀ vs W, But D w W → looseUpon P nil_ (.val v) W ((execOp (G vs).eval o).run P W))
    (h : wpTold P ops D w Q (i + 1) rest (sp ++ [.val (bif b then undef else v)]) (fun vs => (G vs).put o.dst (bif b then undef else v))) : wpTold P ops D w Q i (o :: rest) sp G := by
  cases b with
  | false => exact told_val hw (hr rfl) h
  | true => exact told_off hw h
/-- The same, from what it waits for. -/
theorem told_maybe' {b : Bool} {v : Value} (hw : ∀ vs, Region.wanted o (yielded ops (G vs).tmps) = b)
    (hr : b = true → ∀ vs W, But D w W → (∀ e ∈ o.after, Region.binds .any e = true → ∀ s', sp[e.on]? = some s' → (s'.isFrail = true → false = true) → s'.okk W (vs e.on)) → looseUpon P nil_ (.val v) W ((execOp (G vs).eval o).run P W))
    (h : wpTold P ops D w Q (i + 1) rest (sp ++ [.val (bif b then v else undef)]) (fun vs => (G vs).put o.dst (bif b then v else undef))) : wpTold P ops D w Q i (o :: rest) sp G := by
  cases b with
  | true => exact told_val' hw (hr rfl) h
  | false => exact told_off hw h
theorem told_not' {b : Bool} {v : Value} (hw : ∀ vs, Region.wanted o (yielded ops (G vs).tmps) = !b)
    (hr : b = false → ∀ vs W, But D w W → (∀ e ∈ o.after, Region.binds .any e = true → ∀ s', sp[e.on]? = some s' → (s'.isFrail = true → false = true) → s'.okk W (vs e.on)) → looseUpon P nil_ (.val v) W ((execOp (G vs).eval o).run P W))
    (h : wpTold P ops D w Q (i + 1) rest (sp ++ [.val (bif b then undef else v)]) (fun vs => (G vs).put o.dst (bif b then undef else v))) : wpTold P ops D w Q i (o :: rest) sp G := by
  cases b with
  | false => exact told_val' hw (hr rfl) h
  | true => exact told_off hw h
end
end Go.Proofs.Ytndohmimcbmhdaa

/- What the laws share: categories keep when cells that hold no ids are written; labels copied into cells. -/
set_option linter.unusedVariables false
set_option linter.unusedSimpArgs false
namespace Go.Proofs.Ytndohmimcbmhdaa
open Go.RowKit Go.Sort

/-- A block without ids. -/
def Bare (w : World) (g : Nat) : Prop := ∃ t cs, Blk w g t cs ∧ ∀ (i : Nat) (x : Int), cs[i]? ≠ some (.int .u64 x)
theorem bare26 {w : World} {g : Nat} {a : Int} {A : Option Addr} {n c : Nat} (h : Blk w g 26 #[.int .i64 a, .slice A n c]) : Bare w g :=
  ⟨_, _, h, fun i x => by
    match i with
    | 0 => simp
    | 1 => simp
    | i + 2 => simp⟩
theorem CatsAt.keep {D : Nat → Prop} {w w' : World} {B : Nat} {A : Option Addr} {n c : Nat} {cs : List (Int × Int)} (h : CatsAt w B A n c cs) (hB : B ≤ w.heap.size) (hb : But D w w') (hD : ∀ g, D g → Bare w g) : CatsAt w' B A n c cs :=
  ⟨h.len, h.cap, h.max, fun hn => by
    obtain ⟨b, off, e, hlt, hc⟩ := h.cells hn
    refine ⟨b, off, e, hlt, fun i x hx => ?_⟩
    have hnd : ¬ D b := fun hd => by
      obtain ⟨t, l, hk, hno⟩ := hD b hd
      have h0 := (hc i x hx).1
      rw [Blk.cell hk] at h0
      exact hno _ _ h0
    have hh := hb.block b (by omega) hnd
    have hcell : ∀ k, w'.cell? ⟨b, k, none⟩ = w.cell? ⟨b, k, none⟩ := fun k => by simp [World.cell?, hh]
    rw [hcell, hcell]
    exact hc i x hx⟩
theorem LabR.keep {D : Nat → Prop} {w w' : World} {d : Int} {F : List (Int × Int)} {v : Value} (h : LabR d F w v) (hb : But D w w') (hD : ∀ g, D g → Bare w g) : LabR d F w' v := by
  obtain ⟨A, n, c, e, hT⟩ := h
  exact ⟨A, n, c, e, (hT.keep (Nat.le_refl _) hb hD).more hb.size⟩
/-- Two labels laid into cells. -/
theorem put2 {w : World} {g h : Nat} {a b a' b' : Value} (hg : Blk w g 26 #[a, b]) (hh : Blk w h 26 #[a', b']) (hne : g ≠ h) (x y x' y' : Value) :
    ∃ W, (((w.setCell ⟨g, 0, none⟩ x).setCell ⟨g, 1, none⟩ y).setCell ⟨h, 0, none⟩ x').setCell ⟨h, 1, none⟩ y' = W ∧ Blk W g 26 #[x, y] ∧ Blk W h 26 #[x', y'] ∧ But (fun k => k = g ∨ k = h) w W := by
  have h1 := label_put hg x y
  have h2 := label_put (Blk.far (Blk.far hh (p := ⟨g, 0, none⟩) (fun e => hne e.symm) x) (p := ⟨g, 1, none⟩) (fun e => hne e.symm) y) x' y'
  refine ⟨_, rfl, Blk.far (Blk.far h1 (p := ⟨h, 0, none⟩) hne _) (p := ⟨h, 1, none⟩) hne _, h2, ?_⟩
  exact ((((But.refl (fun k => k = g ∨ k = h) w).setCell (p := ⟨g, 0, none⟩) (.inl (.inl rfl)) _).setCell (p := ⟨g, 1, none⟩) (.inl (.inl rfl)) _).setCell (p := ⟨h, 0, none⟩) (.inl (.inr rfl)) _).setCell (p := ⟨h, 1, none⟩) (.inl (.inr rfl)) _
theorem put1 {w : World} {g : Nat} {a b : Value} (hg : Blk w g 26 #[a, b]) (x y : Value) :
    ∃ W, (w.setCell ⟨g, 0, none⟩ x).setCell ⟨g, 1, none⟩ y = W ∧ Blk W g 26 #[x, y] ∧ But (fun k => k = g) w W :=
  ⟨_, rfl, label_put hg x y, ((But.refl (fun k => k = g) w).setCell (p := ⟨g, 0, none⟩) (.inl rfl) _).setCell (p := ⟨g, 1, none⟩) (.inl rfl) _⟩
theorem Blk.cells2 {w : World} {g : Nat} {t : TypeId} {a b : Value} (h : Blk w g t #[a, b]) : w.cell? ⟨g, 0, none⟩ = some a ∧ w.cell? ⟨g, 1, none⟩ = some b := ⟨(Blk.cell h 0).trans rfl, (Blk.cell h 1).trans rfl⟩

section
variable (w : World) (d d' : Int) (A A' : Option Addr) (n c n' c' : Nat) (cs cs' : List (Int × Int))
theorem merge45_join (h : CatsAt w w.heap.size A n c cs) (h' : CatsAt w w.heap.size A' n' c' cs') (hn : n + n' ≤ 8796093022208) :
    Calls Try.prog 45 #[.agg #[.int .i64 d, .slice A n c], .agg #[.int .i64 d', .slice A' n' c'], .bool true] w fun e w' => RetLab (max d d') (joinL d cs d' cs') w e w' :=
  (merge45 w d d' A A' n c n' c' cs cs' true h h' hn).mono fun _ _ h => by
    have e : formL (pickF true d d') (mergeD (pickF true) d cs d' cs') = joinL d cs d' cs' := mergeD_form (fun x y => max x y) d cs d' cs'
    rw [e] at h
    exact h.lab
theorem merge45_meet (h : CatsAt w w.heap.size A n c cs) (h' : CatsAt w w.heap.size A' n' c' cs') (hn : n + n' ≤ 8796093022208) :
    Calls Try.prog 45 #[.agg #[.int .i64 d, .slice A n c], .agg #[.int .i64 d', .slice A' n' c'], .bool false] w fun e w' => RetLab (min d d') (meetL d cs d' cs') w e w' :=
  (merge45 w d d' A A' n c n' c' cs cs' false h h' hn).mono fun _ _ h => by
    have e : formL (pickF false d d') (mergeD (pickF false) d cs d' cs') = meetL d cs d' cs' := mergeD_form (fun x y => min x y) d cs d' cs'
    rw [e] at h
    exact h.lab
theorem turn47_raise (h : CatsAt w w.heap.size A n c cs) (hn : n ≤ 8796093022208) : Calls Try.prog 47 #[.agg #[.int .i64 d, .slice A n c], .int .i64 0, .int .i64 5] w fun e w' => RetLab (turnF 0 5 d d) (raiseL d cs) w e w' :=
  (turn47 w d 0 5 A n c cs h hn).mono fun _ _ h => h.lab
theorem turn47_lower (h : CatsAt w w.heap.size A n c cs) (hn : n ≤ 8796093022208) : Calls Try.prog 47 #[.agg #[.int .i64 d, .slice A n c], .int .i64 5, .int .i64 0] w fun e w' => RetLab (turnF 5 0 d d) (lowerL d cs) w e w' :=
  (turn47 w d 5 0 A n c cs h hn).mono fun _ _ h => h.lab
theorem set50_l (id lv : Int) (h : CatsAt w w.heap.size A n c cs) (hn : n + 1 ≤ 8796093022208) : Calls Try.prog 50 #[.agg #[.int .i64 d, .slice A n c], .int .u64 id, .int .i64 lv] w fun e w' => RetLab d (formL d ((id, lv) :: cs)) w e w' :=
  (set50 w d id lv A n c cs h hn).mono fun _ _ h => h.lab
theorem exact36_true (h : CatsAt w w.heap.size A n c cs) (h' : CatsAt w w.heap.size A' n' c' cs) :
    Calls Try.prog 36 #[.agg #[.int .i64 d, .slice A n c], .agg #[.int .i64 d, .slice A' n' c']] w fun e w' => e = .returned (.bool true) ∧ Below w.heap.size w w' := by
  have := exact36 w d d A A' n c n' c' cs cs h h'
  have e : exactB d cs d cs = true := by unfold exactB; simp
  rwa [e] at this
end

theorem level_join (d : Int) (cs : List (Int × Int)) (d' : Int) (cs' : List (Int × Int)) (id : Int) : levelL (max d d') (joinL d cs d' cs') id = max (levelL d cs id) (levelL d' cs' id) := by
  unfold joinL; rw [(formL_is _ _).level]; exact levelL_merge (fun x y => max x y) d cs d' cs' id
theorem level_meet (d : Int) (cs : List (Int × Int)) (d' : Int) (cs' : List (Int × Int)) (id : Int) : levelL (min d d') (meetL d cs d' cs') id = min (levelL d cs id) (levelL d' cs' id) := by
  unfold meetL; rw [(formL_is _ _).level]; exact levelL_merge (fun x y => min x y) d cs d' cs' id
theorem level_raise (d : Int) (cs : List (Int × Int)) (id : Int) : levelL (turnF 0 5 d d) (raiseL d cs) id = turnF 0 5 (levelL d cs id) (levelL d cs id) := by
  unfold raiseL; rw [(formL_is _ _).level, levelL_merge (turnF 0 5)]
theorem level_lower (d : Int) (cs : List (Int × Int)) (id : Int) : levelL (turnF 5 0 d d) (lowerL d cs) id = turnF 5 0 (levelL d cs id) (levelL d cs id) := by
  unfold lowerL; rw [(formL_is _ _).level, levelL_merge (turnF 5 0)]
theorem level_form (d : Int) (cs : List (Int × Int)) (id : Int) : levelL d (formL d cs) id = levelL d cs id := (formL_is d cs).level id
theorem joinL_len (d : Int) (cs : List (Int × Int)) (d' : Int) (cs' : List (Int × Int)) : (joinL d cs d' cs').length ≤ cs.length + cs'.length := by
  unfold joinL
  exact Nat.le_trans (formL_len _ _) (by rw [mergeL_len]; omega)
theorem meetL_len (d : Int) (cs : List (Int × Int)) (d' : Int) (cs' : List (Int × Int)) : (meetL d cs d' cs').length ≤ cs.length + cs'.length := by
  unfold meetL
  exact Nat.le_trans (formL_len _ _) (by rw [mergeL_len]; omega)
theorem raiseL_len (d : Int) (cs : List (Int × Int)) : (raiseL d cs).length ≤ cs.length + cs.length := by
  unfold raiseL
  exact Nat.le_trans (formL_len _ _) (by rw [mergeL_len]; omega)
theorem lowerL_len (d : Int) (cs : List (Int × Int)) : (lowerL d cs).length ≤ cs.length + cs.length := by
  unfold lowerL
  exact Nat.le_trans (formL_len _ _) (by rw [mergeL_len]; omega)

/-! ### The lattice -/
theorem leqB_true {d : Int} {cs : List (Int × Int)} {d' : Int} {cs' : List (Int × Int)} (h : d ≤ d') (h' : ∀ id, levelL d cs id ≤ levelL d' cs' id) : leqB d cs d' cs' = true := (leqB_iff _ _ _ _).2 ⟨h, h'⟩
theorem leq_self (d : Int) (cs : List (Int × Int)) : leqB d cs d cs = true := leqB_true (Int.le_refl _) fun _ => Int.le_refl _
section
variable (a : Int) (l : List (Int × Int)) (b : Int) (m : List (Int × Int)) (c : Int) (k : List (Int × Int))
theorem leq_join1 : leqB a l (max a b) (joinL a l b m) = true := leqB_true (by omega) fun id => by rw [level_join]; omega
theorem leq_join2 : leqB b m (max a b) (joinL a l b m) = true := leqB_true (by omega) fun id => by rw [level_join]; omega
theorem leq_meet1 : leqB (min a b) (meetL a l b m) a l = true := leqB_true (by omega) fun id => by rw [level_meet]; omega
theorem leq_meet2 : leqB (min a b) (meetL a l b m) b m = true := leqB_true (by omega) fun id => by rw [level_meet]; omega
theorem leq_trans (h : leqB a l b m = true) (h' : leqB b m c k = true) : leqB a l c k = true := by
  rw [leqB_iff] at h h' ⊢
  exact ⟨by omega, fun id => Int.le_trans (h.2 id) (h'.2 id)⟩
theorem leq_lub (h : leqB a l c k = true) : leqB (max a b) (joinL a l b m) c k = leqB b m c k := by
  rw [Bool.eq_iff_iff, leqB_iff, leqB_iff]
  rw [leqB_iff] at h
  constructor
  · exact fun ⟨h1, h2⟩ => ⟨by omega, fun id => by have := h2 id; rw [level_join] at this; omega⟩
  · exact fun ⟨h1, h2⟩ => ⟨by omega, fun id => by have := h2 id; have := h.2 id; rw [level_join]; omega⟩
theorem leq_glb (h : leqB c k a l = true) : leqB c k (min a b) (meetL a l b m) = leqB c k b m := by
  rw [Bool.eq_iff_iff, leqB_iff, leqB_iff]
  rw [leqB_iff] at h
  constructor
  · exact fun ⟨h1, h2⟩ => ⟨by omega, fun id => by have := h2 id; rw [level_meet] at this; omega⟩
  · exact fun ⟨h1, h2⟩ => ⟨by omega, fun id => by have := h2 id; have := h.2 id; rw [level_meet]; omega⟩
theorem sameB_true {a : Int} {l : List (Int × Int)} {b : Int} {m : List (Int × Int)} (h : a = b) (h' : ∀ id, levelL a l id = levelL b m id) : sameB a l b m = true := by
  unfold sameB
  rw [leqB_true (by omega) fun id => by rw [h' id]; exact Int.le_refl _, leqB_true (by omega) fun id => by rw [h' id]; exact Int.le_refl _]
  rfl
theorem same_join : sameB (max a b) (joinL a l b m) (max b a) (joinL b m a l) = true := sameB_true (by omega) fun id => by rw [level_join, level_join]; omega
theorem same_absorb : sameB (min a (max a b)) (meetL a l (max a b) (joinL a l b m)) a l = true := sameB_true (by omega) fun id => by rw [level_meet, level_join]; omega
theorem same_least : sameB (max a b) (joinL a l b m) b m = leqB a l b m := by
  unfold sameB
  rw [leq_join2, Bool.and_true, Bool.eq_iff_iff, leqB_iff, leqB_iff]
  constructor
  · exact fun ⟨h1, h2⟩ => ⟨by omega, fun id => by have := h2 id; rw [level_join] at this; omega⟩
  · exact fun ⟨h1, h2⟩ => ⟨by omega, fun id => by have := h2 id; rw [level_join]; omega⟩
end
end Go.Proofs.Ytndohmimcbmhdaa
