/- The walk of a drawn region, operation by operation; what operations leave. -/
import Derived.Test.YtndohmimcbmhdaaLo
import Derived.Deep.QuietTactic
set_option linter.unusedVariables false
set_option linter.unusedSimpArgs false
namespace Go.Proofs.Ytndohmimcbmhdaa
open Go.RowKit

/-- The operations of the head, one by one: i is the next one's number, sp what was told of those before, G the frame. -/
def wpTold (P : Program) (ops : Array Oper) (D : Nat → Prop) (w : World) (Q : List Leaves → ((Nat → Value) → Act) → Prop) : Nat → List Oper → List Leaves → ((Nat → Value) → Act) → Prop
  | _, [], sp, G => Q sp G
  | i, o :: rest, sp, G =>
    ((∀ vs, Region.wanted o (yielded ops (G vs).tmps) = true) ∧ ∃ s : Leaves, s.stable D w ∧ (s.isOwn = true → sp.all (fun x => !x.isOwn) = true) ∧
      (∀ vs W, But D w W → (s.isOwn = true → But nil_ w W) → (∀ e ∈ o.after, Region.binds .any e = true → ∀ s', sp[e.on]? = some s' → (s'.isFrail = true → s.isOwn = true) → s'.ok W (vs e.on)) → looseUpon P (s.dis D) s W ((execOp (G vs).eval o).run P W)) ∧
      wpTold P ops D w Q (i + 1) rest (sp ++ [s]) (fun vs => (G vs).put o.dst (s.at (vs i)))) ∨
    ((∀ vs, Region.wanted o (yielded ops (G vs).tmps) = false) ∧ wpTold P ops D w Q (i + 1) rest (sp ++ [.val undef]) (fun vs => (G vs).put o.dst undef))

def listS (sp : List Leaves) : Nat → Leaves := fun j => sp.getD j (.val undef)

theorem lay_congr {ops : Array Oper} {a : Act} {S S' : Nat → Leaves} {vs : Nat → Value} : ∀ i, (∀ j, j < i → S j = S' j) → lay ops a S vs i = lay ops a S' vs i := by
  intro i
  induction i with
  | zero => intro _; rfl
  | succ i ih => intro h; rw [lay, lay, ih fun j hj => h j (by omega), h i (by omega)]

theorem lax_of_told {P : Program} {ops : Array Oper} {D : Nat → Prop} {w : World} {a : Act} {Q : List Leaves → ((Nat → Value) → Act) → Prop} : ∀ (rest : List Oper) (sp : List Leaves) (G : (Nat → Value) → Act),
    (∀ j, rest[j]? = if j < rest.length then ops[sp.length + j]? else none) → (∀ j, j < sp.length → (listS sp j).stable D w) →
    (∀ i j, i < sp.length → j < sp.length → (listS sp i).isOwn = true → (listS sp j).isOwn = true → i = j) → (∀ vs, G vs = lay ops a (listS sp) vs sp.length) →
    (∀ i o, i < sp.length → ops[i]? = some o →
      ((∀ vs, Region.wanted o (yielded ops (lay ops a (listS sp) vs i).tmps) = true) ∧ (∀ vs W, But D w W → ((listS sp i).isOwn = true → But nil_ w W) → (∀ e ∈ o.after, Region.binds .any e = true → e.on < i → ((listS sp e.on).isFrail = true → (listS sp i).isOwn = true) → (listS sp e.on).ok W (vs e.on)) → looseUpon P ((listS sp i).dis D) (listS sp i) W ((execOp (lay ops a (listS sp) vs i).eval o).run P W))) ∨
      ((∀ vs, Region.wanted o (yielded ops (lay ops a (listS sp) vs i).tmps) = false) ∧ listS sp i = .val undef)) →
    wpTold P ops D w Q sp.length rest sp G → ∃ sp' G', Lax P ops (sp.length + rest.length) a D w (listS sp') ∧ sp'.length = sp.length + rest.length ∧ (∀ vs, G' vs = lay ops a (listS sp') vs sp'.length) ∧ Q sp' G' := by
  intro rest
  induction rest with
  | nil =>
    intro sp G _ hst hown hG hrun h
    exact ⟨sp, G, ⟨fun i o hi ho => hrun i o (by simpa using hi) ho, fun i hi => hst i (by simpa using hi), fun i j hi hj => hown i j (by simpa using hi) (by simpa using hj)⟩, by simp, hG, h⟩
  | cons o rest ih =>
    intro sp G hl hst hown hG hrun h
    have ho : ops[sp.length]? = some o := by have := hl 0; simpa using this.symm
    have hl' : ∀ x : Leaves, ∀ j, rest[j]? = if j < rest.length then ops[(sp ++ [x]).length + j]? else none := fun x j => by
      have := hl (j + 1)
      simp only [List.getElem?_cons_succ, List.length_cons, Nat.add_lt_add_iff_right] at this
      rw [this]
      split
      · congr 1; simp; omega
      · rfl
    have hat : ∀ x : Leaves, ∀ j, j < sp.length → listS (sp ++ [x]) j = listS sp j := fun x j hj => by simp [listS, List.getElem?_append_left hj]
    have hend : ∀ x : Leaves, listS (sp ++ [x]) sp.length = x := fun x => by simp [listS]
    have key : ∀ x : Leaves, x.stable D w → (x.isOwn = true → sp.all (fun y => !y.isOwn) = true) →
        (((∀ vs, Region.wanted o (yielded ops (G vs).tmps) = true) ∧ (∀ vs W, But D w W → (x.isOwn = true → But nil_ w W) → (∀ e ∈ o.after, Region.binds .any e = true → ∀ s', sp[e.on]? = some s' → (s'.isFrail = true → x.isOwn = true) → s'.ok W (vs e.on)) → looseUpon P (x.dis D) x W ((execOp (G vs).eval o).run P W))) ∨ ((∀ vs, Region.wanted o (yielded ops (G vs).tmps) = false) ∧ x = .val undef)) →
        wpTold P ops D w Q (sp.length + 1) rest (sp ++ [x]) (fun vs => (G vs).put o.dst (x.at (vs sp.length))) →
        ∃ sp' G', Lax P ops (sp.length + (o :: rest).length) a D w (listS sp') ∧ sp'.length = sp.length + (o :: rest).length ∧ (∀ vs, G' vs = lay ops a (listS sp') vs sp'.length) ∧ Q sp' G' := by
      intro x hx hxo hr hn
      have hlen : (sp ++ [x]).length = sp.length + 1 := by simp
      have noOwn : x.isOwn = true → ∀ j, j < sp.length → (listS sp j).isOwn = false := fun hxx j hj => by
        have := List.all_eq_true.1 (hxo hxx) (sp[j]) (List.getElem_mem hj)
        simpa [listS, List.getElem?_eq_getElem hj] using this
      have := ih (sp ++ [x]) (fun vs => (G vs).put o.dst (x.at (vs sp.length))) (hl' x) (fun j hj => by
          by_cases e : j = sp.length
          · subst e; rw [hend]; exact hx
          · rw [hat x j (by rw [hlen] at hj; omega)]; exact hst j (by rw [hlen] at hj; omega))
        (fun i j hi hj hoi hoj => by
          rw [hlen] at hi hj
          by_cases ei : i = sp.length
          · by_cases ej : j = sp.length
            · omega
            · subst ei
              rw [hend] at hoi
              rw [hat x j (by omega), noOwn hoi j (by omega)] at hoj
              cases hoj
          · by_cases ej : j = sp.length
            · subst ej
              rw [hend] at hoj
              rw [hat x i (by omega), noOwn hoj i (by omega)] at hoi
              cases hoi
            · rw [hat x i (by omega)] at hoi
              rw [hat x j (by omega)] at hoj
              exact hown i j (by omega) (by omega) hoi hoj)
        (fun vs => by
          rw [hlen, lay, hend, lay_congr sp.length (hat x), ← hG vs]
          simp [dstOf, ho])
        (fun i o' hi ho' => by
          rw [hlen] at hi
          by_cases e : i = sp.length
          · subst e
            obtain rfl : o = o' := Option.some.inj (ho.symm.trans ho')
            have hg : ∀ vs, lay ops a (listS (sp ++ [x])) vs sp.length = G vs := fun vs => by rw [lay_congr sp.length (hat x), ← hG vs]
            rw [hend]
            rcases hr with ⟨h1, h2⟩ | ⟨h1, h2⟩
            · refine .inl ⟨fun vs => by rw [hg]; exact h1 vs, fun vs W hW hcm hd => ?_⟩
              rw [hg]
              refine h2 vs W hW hcm fun e he hb s' hs' hfr => ?_
              have hlt : e.on < sp.length := (List.getElem?_eq_some_iff.1 hs').1
              have hse : listS sp e.on = s' := by simp [listS, hs']
              have := hd e he hb hlt
              rw [hat x _ hlt, hse] at this
              exact this hfr
            · exact .inr ⟨fun vs => by rw [hg]; exact h1 vs, h2⟩
          · have hi' : i < sp.length := by omega
            have hc : ∀ vs, lay ops a (listS (sp ++ [x])) vs i = lay ops a (listS sp) vs i := fun vs => lay_congr i fun j hj => hat x j (by omega)
            rw [hat x i hi']
            rcases hrun i o' hi' ho' with ⟨h1, h2⟩ | ⟨h1, h2⟩
            · refine .inl ⟨fun vs => by rw [hc]; exact h1 vs, fun vs W hW hcm hd => ?_⟩
              rw [hc]
              exact h2 vs W hW hcm fun e he hb hlt hfr => by have := hd e he hb hlt; rw [hat x _ (by omega)] at this; exact this hfr
            · exact .inr ⟨fun vs => by rw [hc]; exact h1 vs, h2⟩)
        (by rw [hlen]; exact hn)
      obtain ⟨sp', G', h1, h2, h3, h4⟩ := this
      have e : (sp ++ [x]).length + rest.length = sp.length + (o :: rest).length := by simp; omega
      rw [e] at h1 h2
      exact ⟨sp', G', h1, h2, h3, h4⟩
    rcases h with ⟨hw, s, hs, hso, hr, hn⟩ | ⟨hw, hn⟩
    · exact key s hs hso (.inl ⟨hw, hr⟩) hn
    · exact key (.val undef) trivial (fun h => by cases h) (.inr ⟨hw, rfl⟩) hn

/-- **A drawn region, told one by one**: N operations make the head; those behind it (stores) come in order. -/
theorem wp_region_told {P : Program} {id : Nat} {Q : Exit → Act → World → Prop} {a : Act} {w : World} {l : List Oper} (N : Nat) (D : Nat → Prop) (hm : P.follows .mixedOrders = true) (hB : looseB l.toArray N = true)
    (h : wpTold P l.toArray D w (fun sp G => ∀ vs W, But D w W → (∀ (j : Nat) (s : Leaves), sp[j]? = some s → s.isFrail = false → s.ok W (vs j)) → (∀ (j k : Nat) (s s' : Leaves), sp[j]? = some s → sp[k]? = some s' → j ≠ k → s.isFresh = true → s'.isFresh = true → blockOf (vs j) ≠ blockOf (vs k)) → wpList P l.toArray Q (l.drop N) (G vs) W) 0 (l.take N) [] (fun _ => a)) : (Code.region id l.toArray true).wp P Q a w := by
  obtain ⟨_, hN, _⟩ := looseB_parts hB
  have hN' : N ≤ l.length := by simpa using hN
  obtain ⟨sp, G, hL, hlen, hG, hQ⟩ := lax_of_told (a := a) (l.take N) [] (fun _ => a) (fun j => by
      simp only [List.length_nil, Nat.zero_add, List.length_take, List.getElem?_toArray]
      by_cases h : j < N
      · rw [List.getElem?_take_of_lt h]
        split
        · rfl
        · rw [List.getElem?_eq_none (by omega)]
      · rw [List.getElem?_eq_none (by simp; omega), if_neg (by omega)]) (fun j hj => absurd hj (by simp)) (fun i j hi => absurd hi (by simp)) (fun vs => rfl) (fun i o hi => absurd hi (by simp)) h
  have e : ([] : List Leaves).length + (l.take N).length = N := by simp; omega
  rw [e] at hL hlen
  refine wp_region_lax hm hB hL fun vs W hW hok hap => ?_
  have := hQ vs W hW (fun j s hs hf => by
    have hj : j < N := by have := (List.getElem?_eq_some_iff.1 hs).1; omega
    have hse : listS sp j = s := by simp [listS, hs]
    have := hok j hj
    rw [hse] at this
    exact this hf) (fun j k s s' hs hs' hne hf hf' => by
    have hj : j < N := by have := (List.getElem?_eq_some_iff.1 hs).1; omega
    have hk : k < N := by have := (List.getElem?_eq_some_iff.1 hs').1; omega
    have e1 : listS sp j = s := by simp [listS, hs]
    have e2 : listS sp k = s' := by simp [listS, hs']
    exact hap j k hj hk hne (by rw [e1]; exact hf) (by rw [e2]; exact hf'))
  rw [hG vs, hlen] at this
  exact this

section
variable {P : Program} {ops : Array Oper} {D : Nat → Prop} {w : World} {Q : List Leaves → ((Nat → Value) → Act) → Prop} {i : Nat} {o : Oper} {rest : List Oper} {sp : List Leaves} {G : (Nat → Value) → Act}
theorem loose_val {D' : Nat → Prop} {v : Value} {W : World} : looseUpon P D' (.val v) W (.ok (.value v) W) := ⟨But.refl _ _, rfl, trivial⟩
theorem loose_rel {D' : Nat → Prop} {R : World → Value → Prop} {v : Value} {W W' : World} (hb : But D' W W') (h : R W' v) : looseUpon P D' (.rel R) W (.ok (.value v) W') := ⟨hb, h, trivial⟩
theorem loose_call {f : FuncId} {args : Array Value} {v : Value} {W : World} (h : Calls P f args W fun e w' => e = .returned v ∧ Below W.heap.size W w') : looseUpon P nil_ (.val v) W (.ok (.enter f args) W) :=
  h.mono fun _ _ ⟨he, hb⟩ => ⟨v, he, (But.refl _ _).below hb, rfl, trivial⟩
theorem loose_same {f : FuncId} {args : Array Value} {v : Value} {W : World} (h : Calls P f args W fun e w' => e = .returned v ∧ W = w') : looseUpon P nil_ (.val v) W (.ok (.enter f args) W) :=
  h.mono fun _ _ ⟨he, hb⟩ => ⟨v, he, by subst hb; exact But.refl _ _, rfl, trivial⟩
theorem loose_callR {f : FuncId} {args : Array Value} {R : World → Value → Prop} {W : World} (h : Calls P f args W fun e w' => ∃ v, e = .returned v ∧ R w' v ∧ Below W.heap.size W w') : looseUpon P nil_ (.rel R) W (.ok (.enter f args) W) :=
  h.mono fun _ _ ⟨v, he, hr, hb⟩ => ⟨v, he, (But.refl _ _).below hb, hr, trivial⟩
theorem told_nil (h : Q sp G) : wpTold P ops D w Q i [] sp G := h
/-- It yields one value, in every world. -/
theorem told_val {v : Value} (hw : ∀ vs, Region.wanted o (yielded ops (G vs).tmps) = true) (hr : ∀ vs W, But D w W → looseUpon P nil_ (.val v) W ((execOp (G vs).eval o).run P W))
    (h : wpTold P ops D w Q (i + 1) rest (sp ++ [.val v]) (fun vs => (G vs).put o.dst v)) : wpTold P ops D w Q i (o :: rest) sp G :=
  .inl ⟨hw, .val v, trivial, (fun h => by cases h), fun vs W hW _ _ => hr vs W hW, h⟩
/-- The same, from what it waits for. -/
theorem told_val' {v : Value} (hw : ∀ vs, Region.wanted o (yielded ops (G vs).tmps) = true)
    (hr : ∀ vs W, But D w W → (∀ e ∈ o.after, Region.binds .any e = true → ∀ s', sp[e.on]? = some s' → (s'.isFrail = true → false = true) → s'.ok W (vs e.on)) → looseUpon P nil_ (.val v) W ((execOp (G vs).eval o).run P W))
    (h : wpTold P ops D w Q (i + 1) rest (sp ++ [.val v]) (fun vs => (G vs).put o.dst v)) : wpTold P ops D w Q i (o :: rest) sp G :=
  .inl ⟨hw, .val v, trivial, (fun h => by cases h), fun vs W hW _ hd => hr vs W hW hd, h⟩
/-- What it yields is told by a relation. -/
theorem told_rel (R : World → Value → Prop) (hs : (Leaves.rel R).stable D w) (hw : ∀ vs, Region.wanted o (yielded ops (G vs).tmps) = true)
    (hr : ∀ vs W, But D w W → (∀ e ∈ o.after, Region.binds .any e = true → ∀ s', sp[e.on]? = some s' → (s'.isFrail = true → false = true) → s'.ok W (vs e.on)) → looseUpon P nil_ (.rel R) W ((execOp (G vs).eval o).run P W))
    (h : wpTold P ops D w Q (i + 1) rest (sp ++ [.rel R]) (fun vs => (G vs).put o.dst (vs i))) : wpTold P ops D w Q i (o :: rest) sp G :=
  .inl ⟨hw, .rel R, hs, (fun h => by cases h), fun vs W hW _ hd => hr vs W hW hd, h⟩
/-- It writes a row of the call's own. -/
theorem told_own (R : World → Value → Prop) (hs : (Leaves.own R).stable D w) (hno : sp.all (fun x => !x.isOwn) = true) (hw : ∀ vs, Region.wanted o (yielded ops (G vs).tmps) = true)
    (hr : ∀ vs W, But nil_ w W → (∀ e ∈ o.after, Region.binds .any e = true → ∀ s', sp[e.on]? = some s' → (s'.isFrail = true → true = true) → s'.ok W (vs e.on)) → looseUpon P D (.own R) W ((execOp (G vs).eval o).run P W))
    (h : wpTold P ops D w Q (i + 1) rest (sp ++ [.own R]) (fun vs => (G vs).put o.dst (vs i))) : wpTold P ops D w Q i (o :: rest) sp G :=
  .inl ⟨hw, .own R, hs, fun _ => hno, fun vs W _ hc hd => hr vs W (hc rfl) hd, h⟩
theorem told_frail (R : World → Value → Prop) (hs : (Leaves.frail R).stable D w) (hw : ∀ vs, Region.wanted o (yielded ops (G vs).tmps) = true)
    (hr : ∀ vs W, But D w W → (∀ e ∈ o.after, Region.binds .any e = true → ∀ s', sp[e.on]? = some s' → (s'.isFrail = true → false = true) → s'.ok W (vs e.on)) → looseUpon P nil_ (.frail R) W ((execOp (G vs).eval o).run P W))
    (h : wpTold P ops D w Q (i + 1) rest (sp ++ [.frail R]) (fun vs => (G vs).put o.dst (vs i))) : wpTold P ops D w Q i (o :: rest) sp G :=
  .inl ⟨hw, .frail R, hs, (fun h => by cases h), fun vs W hW _ hd => hr vs W hW hd, h⟩
theorem loose_frail {D' : Nat → Prop} {R : World → Value → Prop} {v : Value} {W W' : World} (hb : But D' W W') (h : R W' v) : looseUpon P D' (.frail R) W (.ok (.value v) W') := ⟨hb, h, trivial⟩
theorem loose_own {D' : Nat → Prop} {R : World → Value → Prop} {v : Value} {W W' : World} (hb : But D' W W') (h : R W' v) : looseUpon P D' (.own R) W (.ok (.value v) W') := ⟨hb, h, trivial⟩
/-- A new block. -/
theorem told_fresh (R : World → Value → Prop) (hs : (Leaves.fresh R).stable D w) (hw : ∀ vs, Region.wanted o (yielded ops (G vs).tmps) = true)
    (hr : ∀ vs W, But D w W → (∀ e ∈ o.after, Region.binds .any e = true → ∀ s', sp[e.on]? = some s' → (s'.isFrail = true → false = true) → s'.ok W (vs e.on)) → looseUpon P nil_ (.fresh R) W ((execOp (G vs).eval o).run P W))
    (h : wpTold P ops D w Q (i + 1) rest (sp ++ [.fresh R]) (fun vs => (G vs).put o.dst (vs i))) : wpTold P ops D w Q i (o :: rest) sp G :=
  .inl ⟨hw, .fresh R, hs, (fun h => by cases h), fun vs W hW _ hd => hr vs W hW hd, h⟩
theorem told_off (hw : ∀ vs, Region.wanted o (yielded ops (G vs).tmps) = false) (h : wpTold P ops D w Q (i + 1) rest (sp ++ [.val undef]) (fun vs => (G vs).put o.dst undef)) : wpTold P ops D w Q i (o :: rest) sp G := .inr ⟨hw, h⟩
end
end Go.Proofs.Ytndohmimcbmhdaa
