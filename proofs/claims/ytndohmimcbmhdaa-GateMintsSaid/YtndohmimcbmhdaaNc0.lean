/- A drawn region that makes variables: these lie apart. -/
import Derived.Test.YtndohmimcbmhdaaMw0
import Derived.Test.YtndohmimcbmhdaaNa0
set_option linter.unusedVariables false
set_option linter.unusedSimpArgs false
namespace Go.Proofs.Ytndohmimcbmhdaa
open Go.RowKit

section
variable {P : Program} {ops : Array Oper} {N : Nat} {a : Act} {w : World} {S : Nat → Lz}
theorem waz_goA {Q : Exit → Act → World → Prop} (hB : looseB ops N = true) (hL : Laz P ops N a w S)
    (hQ : ∀ vs W, Since w W → Fin S N vs W → (∀ j k, j < N → k < N → j ≠ k → (S j).isBox = true → (S k).isBox = true → blockOf (vs j) ≠ blockOf (vs k)) → (∀ j, j < N → (S j).isBox = true → ∃ g, vs j = ptr g ∧ w.heap.size ≤ g ∧ g < W.heap.size) → (∀ j R, j < N → S j = .part R → ∃ lo hi, (∀ k b, k < N → (S k).isBox = true → blockOf (vs k) = some b → b < lo ∨ hi ≤ b) ∧ hi ≤ W.heap.size ∧ R lo hi W (vs j)) → wpList P ops Q (ops.toList.drop N) (lay ops a (fun j => (S j).toL) vs N) W) :
    ∀ (m : Nat) (listed : Array Bool) (vs : Nat → Value) (b : Act) (W : World), togo listed N = m → Waz ops N a w S listed vs b W → wpAny P .any ops Q (m + (ops.size - N)) listed b W := by
  obtain ⟨hsel, hN, hdst, hdeps, htail, hseq⟩ := looseB_parts hB
  intro m
  induction m with
  | zero =>
    intro listed vs b W hm h
    obtain ⟨rfl, rfl⟩ := waz_done hB h hm
    have hall := togo_zero hm
    have := wpAny_of_seq (md := .any) (Q' := Q) (ops.toList.drop N) N (headArr N ops.size) (lay ops a (fun j => (S j).toL) vs N) W (fun j => by simp [List.getElem?_drop]) (by simpa using hseq)
      (hQ vs W h.but ⟨fun j v hj e => h.val j v hj (hall j hj) e, fun j R hj e => by obtain ⟨lo, hi, _, hr⟩ := h.part j R hj (hall j hj) e; exact ⟨lo, hi, hr⟩,
        fun j T cs hj e => by obtain ⟨g, e1, _, e2, _⟩ := h.box j T cs hj (hall j hj) e; exact ⟨g, e1, e2⟩, fun i j k C hi e => (h.fill i j k C hi (hall i hi) e).2⟩ (fun j k hj hk hne hbj hbk => h.apart j k hj hk hne (hall j hj) (hall k hk) hbj hbk) (fun j hj hbx => by obtain ⟨T, cs, hs⟩ := Lz.box_of hbx; obtain ⟨g, e1, e2, e3, _⟩ := h.box j T cs hj (hall j hj) hs; exact ⟨g, e1, e2, e3⟩) (fun j R hj hs => by obtain ⟨lo, hi, ha, hr⟩ := h.part j R hj (hall j hj) hs; exact ⟨lo, hi, fun k b hk hbk hb => ha.2 k b hk (hall k hk) hbk hb, ha.1, hr⟩))
    rw [Nat.zero_add]
    simpa using this
  | succ m ih =>
    intro listed vs b W hm h
    rw [show m + 1 + (ops.size - N) = (m + (ops.size - N)) + 1 by omega]
    obtain ⟨j0, hj0, hu0, hl0⟩ := togo_pos (listed := listed) (N := N) (by omega)
    have hin : ∀ j, j < N → listed.getD j false = false → listed.getD j true = false := fun j hj hu => by
      have : j < listed.size := by rw [h.inv.size]; omega
      simp [this] at hu ⊢; exact hu
    refine ⟨fun hr => ?_, fun i hi => ?_⟩
    · have hj0s : j0 < ops.size := by omega
      have : j0 ∈ Region.ready .any ops listed := mem_ready.2 ⟨hin j0 hj0 hu0, ops[j0], by simp [hj0s], fun e he hb => hl0 _ ((hdeps j0 _ hj0 (by simp [hj0s])).1 e he hb)⟩
      rw [hr] at this
      cases this
    · obtain ⟨hun, o, ho, hall⟩ := mem_ready.1 hi
      have his : i < ops.size := (Array.getElem?_eq_some_iff.1 ho).1
      have hiN : i < N := by
        rcases Nat.lt_or_ge i N with hlt | hge
        · exact hlt
        · rcases htail with he | ⟨hs, hc⟩
          · omega
          · exact absurd hi (tail_waits hs hc (by omega) h.inv _ j0 rfl hj0 (hin j0 hj0 hu0) i hge)
      obtain ⟨hils, hiu⟩ := unlisted_of hun
      have hdo : dstOf ops i = o.dst := by simp [dstOf, ho]
      obtain ⟨hdep, hlook⟩ := hdeps i o hiN ho
      have waited : ∀ j, waitsB ops i j = true → listed.getD j false = true := fun j hw => by
        obtain ⟨o', ho', e, he, hb, hon⟩ := Region.waitsFor_spec hw
        obtain rfl : o' = o := Option.some.inj (ho'.symm.trans ho)
        have := hall e he hb
        rwa [hon] at this
      have hagree : ∀ t ∈ o.looksAt ops, b.tmps[t]? = (lay ops a (fun j => (S j).toL) vs i).tmps[t]? := by
        intro t ht
        by_cases hx : ∃ j, j < N ∧ dstOf ops j = some t
        · obtain ⟨j, hj, hd⟩ := hx
          obtain ⟨hji, hw⟩ := hlook t ht j hj hd
          have hlj := waited j hw
          by_cases htl : t < a.tmps.size
          · rw [h.hit j t hj hlj hd htl, lay_some ops a (fun j => (S j).toL) vs t htl j i hji hd fun k hk hk2 => hdst k j t (by omega) hj hk2 hd]
          · rw [Array.getElem?_eq_none (by rw [h.tsize]; exact Nat.not_lt.1 htl), Array.getElem?_eq_none (by rw [lay_size]; exact Nat.not_lt.1 htl)]
        · have hx2 : ∀ j, j < N → dstOf ops j ≠ some t := fun j hj hd => hx ⟨j, hj, hd⟩
          rw [h.miss t fun j hj _ => hx2 j hj, lay_none ops a (fun j => (S j).toL) vs t i fun j hj => hx2 j (by omega)]
      obtain ⟨hex, hwa⟩ := exec_same (ops := ops) (fun cs d => Region.noSelect_spec hsel i o cs d ho) hagree
      have hnext : ∀ u W', zGot (S i) vs (Away S N listed vs W) W W' u → wpAny P .any ops Q (m + (ops.size - N)) (listed.setIfInBounds i true) (b.put o.dst u) W' := by
        intro u W' hg
        have hput : (S i).toL.at u = u := by
          cases hs : S i with
          | val v => rw [hs] at hg; exact hg.2.symm
          | part R => rfl
          | box T cs => rfl
          | fill j k C => rw [hs] at hg; exact hg.2.1.symm
        -- which blocks may have turned
        have hbut : But (fun m => ∃ j k C, S i = .fill j k C ∧ blockOf (vs j) = some m) W W' := by
          cases hs : S i with
          | val v => rw [hs] at hg; exact ⟨hg.1.os, hg.1.tape, hg.1.output, hg.1.size, fun k hk _ => hg.1.block k hk (fun x => x)⟩
          | part R => rw [hs] at hg; exact ⟨hg.1.os, hg.1.tape, hg.1.output, hg.1.size, fun k hk _ => hg.1.block k hk (fun x => x)⟩
          | box T cs => rw [hs] at hg; exact ⟨hg.1.os, hg.1.tape, hg.1.output, hg.1.size, fun k hk _ => hg.1.block k hk (fun x => x)⟩
          | fill j k C => rw [hs] at hg; exact ⟨hg.1.os, hg.1.tape, hg.1.output, hg.1.size, fun m hm hn => hg.1.block m hm (fun x => hn ⟨j, k, C, rfl, x⟩)⟩
        have hfb : ∀ j k C, S i = .fill j k C → ∃ g, vs j = ptr g ∧ w.heap.size ≤ g ∧ g < W.heap.size ∧ listed.getD j false = true ∧ (S j).isBox = true ∧ j < N := fun j k C hs => by
          obtain ⟨h1, _, h3, h4, _⟩ := hL.fills i j k C hiN hs
          obtain ⟨T, cs, hbx⟩ := Lz.box_of h3
          obtain ⟨g, e1, e2, e3, _⟩ := h.box j T cs (by omega) (waited j h4) hbx
          exact ⟨g, e1, e2, e3, waited j h4, h3, by omega⟩
        have hsince : Since w W' := ⟨hbut.os.trans h.but.os, hbut.tape.trans h.but.tape, hbut.output.trans h.but.output, Nat.le_trans h.but.size hbut.size, fun k hk _ => by
          have h1 := h.but.block k hk (fun x => x)
          rw [← h1]
          refine hbut.block k (Nat.lt_of_lt_of_le hk h.but.size) fun ⟨j, k', C, hs, hbk⟩ => ?_
          obtain ⟨g, e1, e2, _⟩ := hfb j k' C hs
          rw [e1, ptr_block] at hbk
          cases hbk
          omega⟩
        have hlist : ∀ j, (listed.setIfInBounds i true).getD j false = true → j = i ∨ listed.getD j false = true := fun j hj => by
          by_cases e : j = i
          · exact .inl e
          · rw [getD_set_ne false (Ne.symm e)] at hj; exact .inr hj
        have hold : ∀ j, listed.getD j false = true → j ≠ i := fun j hj e => by subst e; rw [hiu] at hj; cases hj
        -- the value of an elder one stays
        have hvs : ∀ j, j ≠ i → (if j = i then u else vs j) = vs j := fun j hj => if_neg hj
        have hbi : (S i).isBox = true → u = ptr W.heap.size ∧ W.heap.size < W'.heap.size := fun hx => by
          obtain ⟨T, cs, hs⟩ := Lz.box_of hx
          rw [hs] at hg
          exact ⟨hg.2.1, Blk.lt hg.2.2⟩
        have haway : ∀ lo hi, Away S N listed vs W lo hi → Away S N (listed.setIfInBounds i true) (fun j => if j = i then u else vs j) W' lo hi := fun lo hi ⟨h1, h2⟩ => by
          refine ⟨Nat.le_trans h1 hbut.size, fun j g hj hjl hbx hg' => ?_⟩
          by_cases e : j = i
          · subst e
            dsimp only at hg'
            rw [if_pos rfl, (hbi hbx).1, ptr_block] at hg'
            cases hg'
            exact .inr h1
          · rcases hlist j hjl with h3 | h3
            · exact absurd h3 e
            · dsimp only at hg'
              rw [if_neg e] at hg'
              exact h2 j g hj h3 hbx hg'
        refine ih (listed.setIfInBounds i true) (fun j => if j = i then u else vs j) (b.put o.dst u) W' (by have := togo_set (N := N) hiN hils hiu; omega) ?_
        refine ⟨h.inv.set hi hiN, hsince, fun j v hj hjl hs => ?_, fun j R hj hjl hs => ?_, fun j T cs hj hjl hs => ?_, fun i' j k C hi' hil hs => ?_, fun j k hj hk hne hjl hkl hbj hbk => ?_, by rw [put_size, h.tsize], by rw [put_defers_, h.defers], fun j t hj hjl hd htl => ?_, fun t hno => ?_⟩
        · by_cases e : j = i
          · subst e; rw [hs] at hg; simpa using hg.2
          · rcases hlist j hjl with h1 | h1
            · exact absurd h1 e
            · rw [hvs j e]; exact h.val j v hj h1 hs
        · by_cases e : j = i
          · subst e
            rw [hs] at hg
            obtain ⟨hsi, lo, hi2, hgd, hr⟩ := hg
            refine ⟨lo, hi2, ?_, by simpa using hr⟩
            rcases hgd with hgd | ⟨rfl, rfl⟩
            · exact haway lo hi2 hgd
            · refine ⟨Nat.le_refl _, fun j' g hj' hjl' hbx hg' => ?_⟩
              by_cases e' : j' = j
              · subst e'; rw [hs] at hbx; cases hbx
              · rcases hlist j' hjl' with h3 | h3
                · exact absurd h3 e'
                · dsimp only at hg'
                  rw [if_neg e'] at hg'
                  obtain ⟨T, cs, hb'⟩ := Lz.box_of hbx
                  obtain ⟨g2, e1, _, e2, _⟩ := h.box j' T cs hj' h3 hb'
                  rw [e1, ptr_block] at hg'
                  cases hg'
                  exact .inl e2
          · rcases hlist j hjl with h1 | h1
            · exact absurd h1 e
            · obtain ⟨lo, hi2, ha, hr⟩ := h.part j R hj h1 hs
              refine ⟨lo, hi2, haway lo hi2 ha, ?_⟩
              simp only [if_neg e]
              have hst := hL.steady j hj
              rw [hs] at hst
              refine hst lo hi2 W W' _ h.but (hbut.into' fun m ⟨j', k', C, hs', hm'⟩ => ?_) hr
              obtain ⟨g, e1, e2, e3, e4, e5, e6⟩ := hfb j' k' C hs'
              rw [e1, ptr_block] at hm'
              cases hm'
              exact ⟨e2, ha.2 j' _ e6 e4 e5 (by rw [e1]; rfl)⟩
        · by_cases e : j = i
          · subst e
            rw [hs] at hg
            obtain ⟨hsi, hu, hk⟩ := hg
            exact ⟨W.heap.size, by simpa using hu, h.but.size, Blk.lt hk, fun _ => hk⟩
          · rcases hlist j hjl with h1 | h1
            · exact absurd h1 e
            · obtain ⟨g, e1, e2, e3, e4⟩ := h.box j T cs hj h1 hs
              refine ⟨g, by rw [hvs j e]; exact e1, e2, Nat.lt_of_lt_of_le e3 hbut.size, fun hno => ?_⟩
              have hk := e4 fun i' k C hi' hs' => by
                have := hno i' k C hi' hs'
                by_cases e' : i' = i
                · subst e'; exact hiu
                · rwa [getD_set_ne false (Ne.symm e')] at this
              refine (hbut.block g e3 fun ⟨j', k', C, hs', hm'⟩ => ?_).trans hk
              by_cases ej : j' = j
              · subst ej
                have := hno i k' C hiN hs'
                rw [getD_set_eq false hils] at this
                cases this
              · obtain ⟨g', f1, _, _, f4, f5, f6⟩ := hfb j' k' C hs'
                exact h.apart j' j f6 hj ej f4 h1 f5 (by rw [hs]; rfl) (by rw [hm', e1]; rfl)
        · by_cases e : i' = i
          · subst e
            obtain ⟨f1, f2, _, _, _⟩ := hL.fills i' j k C hiN hs
            rw [hs] at hg
            simp only [if_pos, if_neg (show j ≠ i' by omega), if_neg (show k ≠ i' by omega)]
            exact ⟨hg.2.1, hg.2.2⟩
          · rcases hlist i' hil with h1 | h1
            · exact absurd h1 e
            · obtain ⟨f1, f2, f3, f4, f5⟩ := hL.fills i' j k C hi' hs
              have lw : ∀ j, waitsB ops i' j = true → listed.getD j false = true := fun j hw => by
                obtain ⟨o', ho', e, he, hb, hon⟩ := Region.waitsFor_spec hw
                have := h.inv.closed i' o' ho' h1 e he hb
                rwa [hon] at this
              have n1 := hold j (lw j f4)
              have n2 := hold k (lw k f5)
              obtain ⟨g1, g2⟩ := h.fill i' j k C hi' h1 hs
              simp only [if_neg e, if_neg n1, if_neg n2]
              refine ⟨g1, ?_⟩
              obtain ⟨T, cs, hbx⟩ := Lz.box_of f3
              obtain ⟨gb, e1, e2, e3, _⟩ := h.box j T cs (by omega) (lw j f4) hbx
              have hst := hL.steady i' hi'
              rw [hs] at hst
              refine hst W W' (vs j) (vs k) gb (by rw [e1]; rfl) e3 (hbut.into' fun m ⟨j', k', C', hs', hm'⟩ => ?_) g2
              obtain ⟨g', p1, p2, _, p4, p5, p6⟩ := hfb j' k' C' hs'
              rw [p1, ptr_block] at hm'
              cases hm'
              refine ⟨p2, fun eg => ?_⟩
              subst eg
              have hjj : j' ≠ j := fun ej => by subst ej; exact e (hL.one i' i j' k C k' C' hi' hiN hs hs')
              exact h.apart j' j p6 (by omega) hjj p4 (lw j f4) p5 f3 (by rw [p1, e1])
        · have hlow : ∀ k, k < N → k ≠ i → (listed.setIfInBounds i true).getD k false = true → (S k).isBox = true → ∃ g, vs k = ptr g ∧ g < W.heap.size := fun k hk hki hkl hbk => by
            rcases hlist k hkl with h1 | h1
            · exact absurd h1 hki
            · obtain ⟨T, cs, hs⟩ := Lz.box_of hbk
              obtain ⟨g, e1, _, e3, _⟩ := h.box k T cs hk h1 hs
              exact ⟨g, e1, e3⟩
          by_cases e1 : j = i
          · have e2 : k ≠ i := fun e2 => hne (e1.trans e2.symm)
            simp only [if_pos e1, if_neg e2]
            obtain ⟨g, q1, q2⟩ := hlow k hk e2 hkl hbk
            rw [(hbi (by rw [← e1]; exact hbj)).1, q1, ptr_block, ptr_block]
            intro he; injection he with he; omega
          · by_cases e2 : k = i
            · simp only [if_neg e1, if_pos e2]
              obtain ⟨g, q1, q2⟩ := hlow j hj e1 hjl hbj
              rw [(hbi (by rw [← e2]; exact hbk)).1, q1, ptr_block, ptr_block]
              intro he; injection he with he; omega
            · simp only [if_neg e1, if_neg e2]
              rcases hlist j hjl with h1 | h1
              · exact absurd h1 e1
              · rcases hlist k hkl with h2 | h2
                · exact absurd h2 e2
                · exact h.apart j k hj hk hne h1 h2 hbj hbk
        · by_cases e : j = i
          · subst e
            rw [hdo] at hd
            rw [hd, put_same _ _ _ (by rw [h.tsize]; exact htl), if_pos rfl, hput]
          · rw [if_neg e, put_other _ _ _ _ (fun he => e (hdst j i t hj hiN hd (by rw [hdo]; exact he)))]
            rcases hlist j hjl with h1 | h1
            · exact absurd h1 e
            · exact h.hit j t hj h1 hd htl
        · rw [put_other _ _ _ _ (fun he => hno i hiN (getD_set_eq false hils) (by rw [hdo]; exact he))]
          refine h.miss t fun j hj hjl => ?_
          by_cases e : j = i
          · subst e; rw [hiu] at hjl; cases hjl
          · exact hno j hj (by rw [getD_set_ne false (Ne.symm e)]; exact hjl)
      unfold wpOp
      simp only [ho]
      rcases hL.run i o hiN ho with ⟨hw, hrun⟩ | ⟨hw, hund⟩
      · rw [if_pos (by rw [hwa]; exact hw vs)]
        refine .inl (wp_of_z (s := S i) (vs := vs) (Good := Away S N listed vs W) ?_ hnext)
        rw [hex]
        refine hrun vs W _ h.but (fun e he hb hlt => ?_) (fun j k C hs T cs hbx => ?_)
        · have hl := hall e he hb
          cases hs : S e.on with
          | val v => exact h.val _ v (by omega) hl hs
          | part R => exact h.part _ R (by omega) hl hs
          | box T cs => obtain ⟨g, e1, e2, e3, _⟩ := h.box _ T cs (by omega) hl hs; exact ⟨g, e1, e2, e3⟩
          | fill j k C => exact (h.fill _ j k C (by omega) hl hs).1
        · obtain ⟨h1, _, _, h4, _⟩ := hL.fills i j k C hiN hs
          obtain ⟨g, e1, _, _, e4⟩ := h.box j T cs (by omega) (waited j h4) hbx
          exact ⟨g, e1, e4 fun i' k' C' hi' hs' => by have := hL.one i' i j k' C' k C hi' hiN hs' hs; subst this; exact hiu⟩
      · rw [if_neg (by rw [hwa, hw vs]; exact Bool.false_ne_true)]
        exact hnext undef W (by rw [hund]; exact ⟨But.refl _ _, rfl⟩)

theorem wp_region_zA {id : Nat} {Q : Exit → Act → World → Prop} (hm : P.follows .mixedOrders = true) (hB : looseB ops N = true) (hL : Laz P ops N a w S)
    (hQ : ∀ vs W, Since w W → Fin S N vs W → (∀ j k, j < N → k < N → j ≠ k → (S j).isBox = true → (S k).isBox = true → blockOf (vs j) ≠ blockOf (vs k)) → (∀ j, j < N → (S j).isBox = true → ∃ g, vs j = ptr g ∧ w.heap.size ≤ g ∧ g < W.heap.size) → (∀ j R, j < N → S j = .part R → ∃ lo hi, (∀ k b, k < N → (S k).isBox = true → blockOf (vs k) = some b → b < lo ∨ hi ≤ b) ∧ hi ≤ W.heap.size ∧ R lo hi W (vs j)) → wpList P ops Q (ops.toList.drop N) (lay ops a (fun j => (S j).toL) vs N) W) : (Code.region id ops true).wp P Q a w := by
  obtain ⟨_, hN, _, _, _, _⟩ := looseB_parts hB
  refine wp_region_any hm ?_
  have hz : togo (Array.replicate ops.size false) N = N := by
    unfold togo
    rw [List.filter_eq_self.2, List.length_range]
    intro j _
    rw [getD_replicate_false]; rfl
  have no : ∀ j, ¬ (Array.replicate ops.size false).getD j false = true := fun j hl => by rw [getD_replicate_false] at hl; cases hl
  have := waz_goA hB hL hQ N (Array.replicate ops.size false) (fun _ => undef) a { w with drawn := w.drawn + 1 } hz
    ⟨⟨by simp, fun j oj _ hl => absurd hl (no j), fun t _ ht => getD_in (by simpa using ht) (getD_replicate_false _ _)⟩, (But.refl nil_ w).drew, fun j v _ hl => absurd hl (no j), fun j R _ hl => absurd hl (no j), fun j T cs _ hl => absurd hl (no j), fun i j k C _ hl => absurd hl (no i), fun j k _ _ _ hl => absurd hl (no j), rfl, rfl, fun j t _ hl => absurd hl (no j), fun t _ => rfl⟩
  rwa [show N + (ops.size - N) = ops.size by omega] at this
end
/-- What is made lies apart, and apart from the parts. -/
structure ZApart (sp : List Lz) (vs : Nat → Value) (w W : World) : Prop where
  ne : ∀ (j k : Nat) (T : TypeId) (cs : Array Value) (T' : TypeId) (cs' : Array Value), sp[j]? = some (.box T cs) → sp[k]? = some (.box T' cs') → j ≠ k → blockOf (vs j) ≠ blockOf (vs k)
  box : ∀ (j : Nat) (T : TypeId) (cs : Array Value), sp[j]? = some (.box T cs) → ∃ g, vs j = ptr g ∧ w.heap.size ≤ g ∧ g < W.heap.size
  part : ∀ (j : Nat) (R : Nat → Nat → World → Value → Prop), sp[j]? = some (.part R) → ∃ lo hi, (∀ (k : Nat) (T : TypeId) (cs : Array Value) (b : Nat), sp[k]? = some (.box T cs) → blockOf (vs k) = some b → b < lo ∨ hi ≤ b) ∧ hi ≤ W.heap.size ∧ R lo hi W (vs j)
/-- **A drawn region that makes variables, told one by one.** -/
theorem wp_region_toldzA {P : Program} {id : Nat} {Q : Exit → Act → World → Prop} {a : Act} {w : World} {l : List Oper} (N : Nat) (hm : P.follows .mixedOrders = true) (hB : looseB l.toArray N = true)
    (h : zTold P l.toArray w (fun sp G => ∀ vs W, Since w W → (∀ (j : Nat) v, sp[j]? = some (.val v) → vs j = v) → (∀ (j : Nat) R, sp[j]? = some (.part R) → ∃ lo hi, R lo hi W (vs j)) → (∀ (j : Nat) T cs, sp[j]? = some (.box T cs) → ∃ g, vs j = ptr g ∧ g < W.heap.size) → (∀ (i j k : Nat) C, sp[i]? = some (.fill j k C) → C W (vs j) (vs k)) → ZApart sp vs w W → wpList P l.toArray Q (l.drop N) (G vs) W) 0 (l.take N) [] (fun _ => a)) : (Code.region id l.toArray true).wp P Q a w := by
  obtain ⟨_, hN, _⟩ := looseB_parts hB
  have hN' : N ≤ l.length := by simpa using hN
  obtain ⟨sp, G, hL, hlen, hG, hQ⟩ := laz_of_told (a := a) (l.take N) [] (fun _ => a) (fun j => by
      simp only [List.length_nil, Nat.zero_add, List.length_take, List.getElem?_toArray]
      by_cases h : j < N
      · rw [List.getElem?_take_of_lt h]
        split
        · rfl
        · rw [List.getElem?_eq_none (by omega)]
      · rw [List.getElem?_eq_none (by simp; omega), if_neg (by omega)]) (fun j hj => absurd hj (by simp)) (fun i j k C hi => absurd hi (by simp)) (fun i i' j k C k' C' hi => absurd hi (by simp)) (fun vs => rfl) (fun i o hi => absurd hi (by simp)) h
  have e : ([] : List Lz).length + (l.take N).length = N := by simp; omega
  rw [e] at hL hlen
  refine wp_region_zA hm hB hL fun vs W hW ⟨f1, f2, f3, f4⟩ hapt hbxs hpts => ?_
  have lt : ∀ j s, sp[j]? = some s → j < N ∧ listZ sp j = s := fun j s hs => ⟨by have := (List.getElem?_eq_some_iff.1 hs).1; omega, by simp [listZ, hs]⟩
  have := hQ vs W hW (fun j v hs => f1 j v (lt j _ hs).1 (lt j _ hs).2) (fun j R hs => f2 j R (lt j _ hs).1 (lt j _ hs).2) (fun j T cs hs => f3 j T cs (lt j _ hs).1 (lt j _ hs).2) (fun i j k C hs => f4 i j k C (lt i _ hs).1 (lt i _ hs).2) ⟨fun j k T cs T' cs' h1 h2 hne => hapt j k (lt j _ h1).1 (lt k _ h2).1 hne (by rw [(lt j _ h1).2]; rfl) (by rw [(lt k _ h2).2]; rfl), fun j T cs h1 => hbxs j (lt j _ h1).1 (by rw [(lt j _ h1).2]; rfl), fun j R h1 => by obtain ⟨lo, hi, ha, hh, hr⟩ := hpts j R (lt j _ h1).1 (lt j _ h1).2; exact ⟨lo, hi, fun k T cs b h2 hb => ha k b (lt k _ h2).1 (by rw [(lt k _ h2).2]; rfl) hb, hh, hr⟩⟩
  rw [hG vs, hlen] at this
  exact this

end Go.Proofs.Ytndohmimcbmhdaa

/- A list of numbers that comes in. -/
set_option linter.unusedVariables false
set_option linter.unusedSimpArgs false
namespace Go.Proofs.Ytndohmimcbmhdaa
open Go.RowKit Go.ChangeShapes Go.WideShapes Go.Deep
set_option maxRecDepth 100000
/-- A slice value that reads as these numbers, below block B. -/
structure IntsAt (w : World) (B : Nat) (A : Option Addr) (n c : Nat) (bs : List Int) : Prop where
  len : bs.length = n
  cap : n ≤ c
  max : c ≤ maxLen
  fit : ∀ x ∈ bs, i64R x
  cells : 0 < n → ∃ b off, A = some ⟨b, off, none⟩ ∧ b < B ∧ ∀ i x, bs[i]? = some x → w.cell? ⟨b, off + i, none⟩ = some (.int .i64 x)
theorem IntsAt.nil_ {w : World} {B : Nat} : IntsAt w B none 0 0 [] := ⟨rfl, Nat.le_refl _, by simp [maxLen], (fun _ h => nomatch h), fun h => absurd h (by omega)⟩
theorem IntsAt.below {w w' : World} {B : Nat} {A : Option Addr} {n c : Nat} {bs : List Int} (h : IntsAt w B A n c bs) (hb : Below B w w') : IntsAt w' B A n c bs :=
  ⟨h.len, h.cap, h.max, h.fit, fun hn => by
    obtain ⟨b, off, e, hB, hc⟩ := h.cells hn
    exact ⟨b, off, e, hB, fun i x hx => (hb.cell (p := ⟨b, off + i, none⟩) hB).trans (hc i x hx)⟩⟩
theorem IntsAt.one {w : World} {B : Nat} {A : Option Addr} {n c : Nat} {bs : List Int} (h : IntsAt w B A n c bs) {k : Nat} (hk : k < n) : ∃ b off x, A = some ⟨b, off, none⟩ ∧ b < B ∧ bs[k]? = some x ∧ i64R x ∧ w.cell? ⟨b, off + k, none⟩ = some (.int .i64 x) := by
  obtain ⟨b, off, e, hB, hc⟩ := h.cells (by omega)
  have hx : bs[k]? = some (bs[k]'(by rw [h.len]; exact hk)) := List.getElem?_eq_getElem _
  exact ⟨b, off, _, e, hB, hx, h.fit _ (List.mem_of_getElem? hx), hc k _ hx⟩
theorem cellsOf80 : Try.prog.cellsOf 80 = 1 := by kernel_rfl
section
variable {H : Type} {enc : TypeId × Value → H} {w W : World} {base b0 : Nat} {spare : Nat → Bool} {held : Bool} {d : DataW H} {p : List MemPlace} {v : Value}
theorem int_of_trod {fuel : Nat} {cs : List Value} {x : DataW H × List MemPlace} (h : DataW.trod enc Try.prog w base spare held fuel 3 cs = some x) : ∃ a : Int, cs = [.int .i64 a] ∧ i64R a := by
  obtain ⟨a, k, _, r⟩ := DataW.trod_int Try.underlying3 h
  exact ⟨a, k, by simpa [u64R, i64R, Lit.wf, IntKind.min, IntKind.max, IntKind.signed, IntKind.bits] using r⟩
theorem ints_of_trod {fuel : Nat} {cs : List Value} {x : DataW H × List MemPlace} (h : DataW.trod enc Try.prog w base spare held fuel 80 cs = some x) :
    ∃ A n c l, cs = [.slice A n c] ∧ IntsAt w w.heap.size A n c l ∧ n + 1 ≤ Rows.uptoBulk x.1 := by
  rcases open_slice Try.underlying80 h with ⟨rfl, rfl⟩ | ⟨a, len, cap, m, n, D, Pl, rfl, hb, hl, hm, hmm, hx, hi⟩
  · exact ⟨none, 0, 0, [], rfl, IntsAt.nil_, bulk_one _⟩
  · have hle : len ≤ m := by rw [hmm]; split <;> omega
    have hch : ∀ i, i < len → ∃ t : Int, w.cell? ((a.add (i * 1)).add 0) = some (.int .i64 t) ∧ i64R t := by
      intro i hil
      obtain ⟨cs', hc, ht⟩ := hi i (by omega)
      rw [cellsOf3] at hc
      obtain ⟨p, rfl, r⟩ := int_of_trod ht
      obtain ⟨_, hcl, hat⟩ := World.cells?_some hc
      exact ⟨p, hat 0 (by omega), r⟩
    refine ⟨some a, len, cap, (List.range len).map (fun i => if hh : i < len then (hch i hh).choose else 0), rfl, ⟨by simp, hl, hm, fun x hx => ?_, fun hn => ?_⟩, ?_⟩
    · obtain ⟨i, hi, rfl⟩ := List.mem_map.1 hx
      have hil : i < len := List.mem_range.1 hi
      have := (hch i hil).choose_spec.2
      simp only [hil, dif_pos]
      exact this
    · have h0 := (hch 0 hn).choose_spec.1
      have e0 : (a.add (0 * 1)).add 0 = a := by simp [Addr.add]
      replace h0 := (congrArg w.cell? e0).symm.trans h0
      have hsp := World.cell?_spot h0
      obtain ⟨b, off, sp⟩ := a
      simp only at hsp
      subst hsp
      refine ⟨b, off, rfl, cell_lt h0, fun i t ht => ?_⟩
      have hil : i < len := by
        have := (List.getElem?_eq_some_iff.1 ht).1
        simpa using this
      have et : t = (if hh : i < len then (hch i hh).choose else 0) := by
        rw [List.getElem?_map, List.getElem?_range hil] at ht
        exact (Option.some.inj ht).symm
      rw [dif_pos hil] at et
      subst et
      have q := (hch i hil).choose_spec.1
      generalize (hch i hil).choose = t at q ⊢
      have ea : ((⟨b, off, none⟩ : Addr).add (i * 1)).add 0 = ⟨b, off + i, none⟩ := by
        unfold Addr.add
        by_cases h1 : i = 0 <;> simp [h1]
      rw [ea] at q
      exact q
    · rw [hx]
      have := bulk_slice ((List.range len).map D) ((List.range (m - len)).map fun j => D (len + j))
      simp only [List.length_map, List.length_range] at this
      simp only
      omega

theorem open_ints {r : Reach} (hv : Value.okWide Try.prog W r b0 80 v) (h : DataW.Trod enc Try.prog W base spare held 80 v d p) :
    ∃ A n c l, v = .slice A n c ∧ IntsAt W W.heap.size A n c l := by
  obtain ⟨A', n', c', rfl⟩ := okWide_slice Try.underlying80 hv
  obtain ⟨fu, h⟩ := h
  obtain ⟨A, n, c, l, e, hT, _⟩ := ints_of_trod h
  obtain ⟨rfl, rfl, rfl⟩ : A' = A ∧ n' = n ∧ c' = c := by simpa [Value.cells] using e
  exact ⟨A', n', c', l, rfl, hT⟩
end
end Go.Proofs.Ytndohmimcbmhdaa
