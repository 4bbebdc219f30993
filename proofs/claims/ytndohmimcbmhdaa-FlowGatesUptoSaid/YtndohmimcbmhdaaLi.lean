/- The same for a region whose order is the text's. -/
import Derived.Test.YtndohmimcbmhdaaTo
set_option linter.unusedVariables false
set_option linter.unusedSimpArgs false
namespace Go.Proofs.Ytndohmimcbmhdaa
open Go.RowKit

theorem lay_vals {ops : Array Oper} {a : Act} {S : Nat → Leaves} {vs vs' : Nat → Value} : ∀ i, (∀ j, j < i → vs j = vs' j) → lay ops a S vs i = lay ops a S vs' i := by
  intro i
  induction i with
  | zero => intro _; rfl
  | succ i ih => intro h; rw [lay, lay, ih fun j hj => h j (by omega), h i (by omega)]

theorem wp_list_lax {P : Program} {ops : Array Oper} {N : Nat} {a : Act} {D : Nat → Prop} {w : World} {S : Nat → Leaves} {Q : Exit → Act → World → Prop} (hN : N ≤ ops.size) (hL : Lax P ops N a D w S)
    (hQ : ∀ vs W, But D w W → (∀ j, j < N → (S j).isFrail = false → (S j).ok W (vs j)) → (∀ j k, j < N → k < N → j ≠ k → (S j).isFresh = true → (S k).isFresh = true → blockOf (vs j) ≠ blockOf (vs k)) → wpList P ops Q (ops.toList.drop N) (lay ops a S vs N) W) :
    ∀ (m i : Nat) (vs : Nat → Value) (W : World), i + m = N → But D w W → ((∀ k, k < i → (S k).isOwn = false) → But nil_ w W) →
      (∀ j, j < i → ((S j).isFrail = true → ∀ k, k < i → (S k).isOwn = false) → (S j).ok W (vs j)) →
      (∀ j k, j < i → k < i → j ≠ k → (S j).isFresh = true → (S k).isFresh = true → blockOf (vs j) ≠ blockOf (vs k)) → wpList P ops Q (ops.toList.drop i) (lay ops a S vs i) W := by
  intro m
  induction m with
  | zero =>
    intro i vs W hi hb _ hok hap
    obtain rfl : i = N := by omega
    exact hQ vs W hb (fun j hj hf => hok j hj fun hx => by rw [hf] at hx; cases hx) hap
  | succ m ih =>
    intro i vs W hi hb hcalm hok hap
    have hiN : i < N := by omega
    have his : i < ops.size := by omega
    have hdrop : ops.toList.drop i = ops[i] :: ops.toList.drop (i + 1) := by
      rw [List.drop_eq_getElem_cons (by simpa using his)]
      simp
    have ho : ops[i]? = some ops[i] := Array.getElem?_eq_getElem his
    rw [hdrop]
    generalize ops[i] = o at *
    have hnext : ∀ u W', But ((S i).dis D) W W' → (S i).ok W' u → (S i).born W u → wpList P ops Q (ops.toList.drop (i + 1)) ((lay ops a S vs i).put o.dst u) W' := by
      intro u W' hbu hku hborn
      have hlay : (lay ops a S vs i).put o.dst u = lay ops a S (fun j => if j = i then u else vs j) (i + 1) := by
        rw [lay, lay_vals i (vs' := vs) fun j hj => if_neg (by omega)]
        simp only [dstOf, ho, Option.bind_some, if_true]
        rw [Leaves.at_ok hku]
      rw [hlay]
      have hbW := hb.trans hbu.dis
      refine ih (i + 1) _ W' (by omega) hbW (fun hc => ?_) (fun j hj hfr => ?_) (fun j k hj hk hne hfj hfk => ?_)
      · have h1 := hc i (by omega)
        refine (hcalm fun k hk => hc k (by omega)).trans ?_
        cases hsi : S i with
        | val v => rw [hsi] at hbu; exact hbu
        | rel R => rw [hsi] at hbu; exact hbu
        | own R => rw [hsi] at h1; cases h1
        | frail R => rw [hsi] at hbu; exact hbu
        | fresh R => rw [hsi] at hbu; exact hbu
      · by_cases e : j = i
        · subst e; simpa using hku
        · skip
          rw [if_neg e]
          have hji : j < i := by omega
          have hk := hok j hji fun hx k hk => hfr hx k (by omega)
          have hst := hL.stable j (by omega)
          cases hs : S j with
          | val v => rw [hs] at hk; exact hk
          | rel R => rw [hs] at hst hk; exact hst W W' _ hb hbu.dis hk
          | fresh R =>
            rw [hs] at hst hk
            obtain ⟨hk, b, eb, hlb⟩ := hk
            exact ⟨hst W W' _ hb hbu.dis hk, b, eb, Nat.lt_of_lt_of_le hlb hbu.size⟩
          | own R =>
            rw [hs] at hst hk
            refine hst W W' _ hb ?_ hk
            cases hsi : S i with
            | val v => rw [hsi] at hbu; exact hbu
            | rel R => rw [hsi] at hbu; exact hbu
            | own R' => exact absurd (hL.own j i (by omega) hiN (by rw [hs]; rfl) (by rw [hsi]; rfl)) e
            | frail R' => rw [hsi] at hbu; exact hbu
            | fresh R' => rw [hsi] at hbu; exact hbu
          | frail R =>
            rw [hs] at hst hk
            refine hst W W' _ hb ?_ hk
            cases hsi : S i with
            | val v => rw [hsi] at hbu; exact hbu
            | rel R => rw [hsi] at hbu; exact hbu
            | own R' =>
              have := hfr (by rw [hs]; rfl) i (by omega)
              rw [hsi] at this
              cases this
            | frail R' => rw [hsi] at hbu; exact hbu
            | fresh R' => rw [hsi] at hbu; exact hbu
      · have hlow : ∀ k, k < i → (S k).isFresh = true → ∃ b, blockOf (vs k) = some b ∧ b < W.heap.size := fun k hk hfk =>
          Leaves.fresh_ok hfk (hok k hk fun hx => (Leaves.fresh_not_frail hfk hx).elim)
        by_cases e1 : j = i
        · have e2 : k ≠ i := fun e2 => hne (e1.trans e2.symm)
          rw [if_pos e1, if_neg e2]
          obtain ⟨b, eb, hb1⟩ := Leaves.fresh_born (by rw [← e1]; exact hfj) hborn
          obtain ⟨b', eb', hb'⟩ := hlow k (by omega) hfk
          rw [eb, eb']
          intro he
          injection he with he
          omega
        · by_cases e2 : k = i
          · rw [if_neg e1, if_pos e2]
            obtain ⟨b, eb, hb1⟩ := Leaves.fresh_born (by rw [← e2]; exact hfk) hborn
            obtain ⟨b', eb', hb'⟩ := hlow j (by omega) hfj
            rw [eb, eb']
            intro he
            injection he with he
            omega
          · rw [if_neg e1, if_neg e2]
            exact hap j k (by omega) (by omega) hne hfj hfk
    unfold wpList
    rcases hL.run i o hiN ho with ⟨hw, hrun⟩ | ⟨hw, hund⟩
    · rw [if_pos (hw vs)]
      refine .inl (wp_of_loose (D' := (S i).dis D) (s := S i) ?_ fun u W' h1 h2 h3 => hnext u W' h1 h2 h3)
      exact hrun vs W hb (fun hx => hcalm fun k hk => by
        cases hq : (S k).isOwn with
        | false => rfl
        | true => have := hL.own i k hiN (by omega) hx hq; omega) fun e he hbd hlt hfr => hok e.on hlt fun hx k hk => by
          cases hq : (S k).isOwn with
          | false => rfl
          | true => have := hL.own i k hiN (by omega) (hfr hx) hq; omega
    · rw [if_neg (by rw [hw vs]; exact Bool.false_ne_true)]
      exact hnext undef W (But.refl _ _) (by rw [hund]; rfl) (by rw [hund]; trivial)

/-- **A region in the text's order, told one by one.** -/
theorem wp_list_told {P : Program} {Q : Exit → Act → World → Prop} {a : Act} {w : World} {l : List Oper} (M N : Nat) (D : Nat → Prop) (hM : l.length = M) (hN : N ≤ M)
    (h : wpTold P l.toArray D w (fun sp G => ∀ vs W, But D w W → (∀ (j : Nat) (s : Leaves), sp[j]? = some s → s.isFrail = false → s.ok W (vs j)) → (∀ (j k : Nat) (s s' : Leaves), sp[j]? = some s → sp[k]? = some s' → j ≠ k → s.isFresh = true → s'.isFresh = true → blockOf (vs j) ≠ blockOf (vs k)) → wpList P l.toArray Q (l.drop N) (G vs) W) 0 (l.take N) [] (fun _ => a)) : wpList P l.toArray Q l a w := by
  obtain ⟨sp, G, hL, hlen, hG, hQ⟩ := lax_of_told (a := a) (l.take N) [] (fun _ => a) (fun j => by
      simp only [List.length_nil, Nat.zero_add, List.length_take, List.getElem?_toArray]
      by_cases h : j < N
      · rw [List.getElem?_take_of_lt h]
        split
        · rfl
        · rw [List.getElem?_eq_none (by omega)]
      · rw [List.getElem?_eq_none (by simp; omega), if_neg (by omega)]) (fun j hj => absurd hj (by simp)) (fun i j hi => absurd hi (by simp)) (fun vs => rfl) (fun i o hi => absurd hi (by simp)) h
  have e : ([] : List Leaves).length + (l.take N).length = N := by simp; omega
  rw [e] at hL hlen
  refine (wp_list_lax (P := P) (ops := l.toArray) (Q := Q) (by simp; omega) hL (fun vs W hW hok hap => ?_) N 0 (fun _ => undef) w (by omega) (But.refl _ _) (fun _ => But.refl _ _) (fun j hj => absurd hj (by omega)) (fun j k hj => absurd hj (by omega)))
  have := hQ vs W hW (fun j s hs hf => by
    have hj : j < N := by have := (List.getElem?_eq_some_iff.1 hs).1; omega
    have hse : listS sp j = s := by simp [listS, hs]
    have := hok j hj
    rw [hse] at this
    exact this hf) (fun j k s s' hs hs' hne hf hf' => by
    have hj : j < N := by have := (List.getElem?_eq_some_iff.1 hs).1; omega
    have hk : k < N := by have := (List.getElem?_eq_some_iff.1 hs').1; omega
    have e1 : listS sp j = s := by simp [listS, hs]
    have e2 : listS sp k = s' := by simp [listS, hs']
    exact hap j k hj hk hne (by rw [e1]; exact hf) (by rw [e2]; exact hf'))
  rw [hG vs, hlen] at this
  exact this
end Go.Proofs.Ytndohmimcbmhdaa
