/- gate.Through. -/
import Derived.Test.YtndohmimcbmhdaaNb0
set_option linter.unusedVariables false
set_option linter.unusedSimpArgs false
namespace Go.Proofs.Ytndohmimcbmhdaa
open Go.RowKit Go.Sort

set_option maxHeartbeats 8000000 in
set_option maxRecDepth 100000 in
theorem through78 (w : World) (t g : Th) (p q : Tl) (d : Int) (A : Option Addr) (n c : Nat) (l : List (Int × Int)) (e : Int) (E : Option Addr) (m k : Nat) (r : List (Int × Int)) (S : Nat → Prop) (hS : ThS S w t p) (h : ThAt w t p) (hg : ThAt w g q) (s1 : Slim t) (s2 : Slim g) (z3 : t.links.n ≤ 8796093022208) (z4 : t.data.n ≤ 140737488355328)
    (tn : CatsAt w w.heap.size A n c l) (un : CatsAt w w.heap.size E m k r) (zn : n ≤ 8796093022207) (zm : m ≤ 8796093022207) :
    Calls Try.prog 78 #[.agg (thC t), .agg (thC g), .agg #[.int .i64 d, .slice A n c, .int .i64 e, .slice E m k]] w fun x w' => RetS (fun j => thruB t p g q d l e r = false ∧ S j) (bif thruB t p g q d l e r then thruT t g d e else t) (bif thruB t p g q d l e r then thruL p l r else p) (bif thruB t p g q d l e r then 0 else 181) w x w' := by
  have mixed : Try.prog.follows .mixedOrders = true := by kernel_rfl
  obtain ⟨q0, q1, q2, q3, q4, -⟩ := four_blk w (thC t) (thC g) #[.int .i64 d, .slice A n c, .int .i64 e, .slice E m k] (thC zeroTh) 61 61 43 61
  have HB := hid q0
  have HP0 := hid q1
  have HP1 := hid q2
  have HP2 := hid q3
  have HP3 := hid q4
  have hsz : (((w.alloc (.cells (thC t) 61)).alloc (.cells (thC g) 61)).alloc (.cells #[.int .i64 d, .slice A n c, .int .i64 e, .slice E m k] 43)).heap.size = w.heap.size + 1 + 1 + 1 := by simp
  have H := hid (ThAt.in_ h q0)
  have HG := hid (ThAt.in_ hg q0)
  have HT := hid ((tn.below q0))
  have HU := hid ((un.below q0))
  have HL0 := hid (Nat.le_of_lt q1.lt)
  have hWa := hid ((But.refl nil_ w).below q0)
  have HEN : Hid (∀ W, But nil_ ((((w.alloc (.cells (thC t) 61)).alloc (.cells (thC g) 61)).alloc (.cells #[.int .i64 d, .slice A n c, .int .i64 e, .slice E m k] 43)).alloc (.cells (thC zeroTh) 61)) W → Calls Try.prog 66 #[.agg #[.int .i64 t.d1, .slice t.l1.a t.l1.n t.l1.c, .int .i64 t.d2, .slice t.l2.a t.l2.n t.l2.c], .agg #[.int .i64 g.d1, .slice g.l1.a g.l1.n g.l1.c, .int .i64 g.d2, .slice g.l2.a g.l2.n g.l2.c], .agg #[.int .i64 d, .slice A n c, .int .i64 e, .slice E m k]] W fun x w' => x = .returned (.bool (thruB t p g q d l e r)) ∧ Below W.heap.size W w') := fun W hW => by
    have a1 := (H.out.at_ HL0.out).since_ hW
    have a2 := (HG.out.at_ HL0.out).since_ hW
    exact f66v W _ _ _ _ _ _ _ _ _ _ _ _ _ _ _ _ _ _ _ _ _ _ _ _ _ _ _ _ _ _ a1.c1 s1.z1 a1.c2 s1.z2 a2.c1 s2.z1 a2.c2 s2.z2 ((HT.out.more HL0.out).since_ hW) zn ((HU.out.more HL0.out).since_ hW) zm
  have HSS := hid (hS.and h.s)
  clear q0 q1 q2 q3 q4 h hg tn un hS
  generalize thruB t p g q d l e r = ok at *
  go_enter Try.func78, Try.ntmps78
  go_wp2_with (first | (refine wpList_alloc61 ?_; rw [hsz]))
  clear hsz
  generalize (((w.alloc (.cells (thC t) 61)).alloc (.cells (thC g) 61)).alloc (.cells #[.int .i64 d, .slice A n c, .int .i64 e, .slice E m k] 43)).alloc (.cells (thC zeroTh) 61) = wa at *
  have HF : Hid (∀ W, But nil_ wa W → True) := fun W hW => trivial
  refine wp_region_told 7 nil_ mixed (by kernel_rfl) ?_
  simp only [List.take_succ_cons, List.take_zero, List.drop_succ_cons, List.drop_zero]
  refine told_val (v := .agg (thC t)) (hw := fun _ => rfl) (hr := fun vs W hW => loose_load61 rfl rfl (hW.blk HP0.out (fun h => h))) ?_
  simp only [Act.put, List.setIfInBounds_toArray, List.set_cons_zero, List.set_cons_succ, List.nil_append, List.cons_append, Nat.reduceAdd, Leaves.at]
  refine told_val (v := (.agg #[.int .i64 t.d1, .slice t.l1.a t.l1.n t.l1.c, .int .i64 t.d2, .slice t.l2.a t.l2.n t.l2.c])) (fun _ => rfl) (fun vs W hW => ?_) ?_
  · go_simp
    exact loose_call (who82 W t)
  simp only [Act.put, List.setIfInBounds_toArray, List.set_cons_zero, List.set_cons_succ, List.nil_append, List.cons_append, Nat.reduceAdd, Leaves.at]
  refine told_val (v := .agg (thC g)) (hw := fun _ => rfl) (hr := fun vs W hW => loose_load61 rfl rfl (hW.blk HP1.out (fun h => h))) ?_
  simp only [Act.put, List.setIfInBounds_toArray, List.set_cons_zero, List.set_cons_succ, List.nil_append, List.cons_append, Nat.reduceAdd, Leaves.at]
  refine told_val (v := (.agg #[.int .i64 g.d1, .slice g.l1.a g.l1.n g.l1.c, .int .i64 g.d2, .slice g.l2.a g.l2.n g.l2.c])) (fun _ => rfl) (fun vs W hW => ?_) ?_
  · go_simp
    exact loose_call (who82 W g)
  simp only [Act.put, List.setIfInBounds_toArray, List.set_cons_zero, List.set_cons_succ, List.nil_append, List.cons_append, Nat.reduceAdd, Leaves.at]
  refine told_val (v := (.agg #[.int .i64 d, .slice A n c, .int .i64 e, .slice E m k])) (hw := fun _ => rfl) (hr := fun vs W hW => loose_load (cur := [.int .i64 d, .slice A n c, .int .i64 e, .slice E m k]) (vs := [.int .i64 d, .slice A n c, .int .i64 e, .slice E m k]) rfl rfl (hW.blk HP2.out (fun h => h)) agg43 size43 rfl) ?_
  simp only [Act.put, List.setIfInBounds_toArray, List.set_cons_zero, List.set_cons_succ, List.nil_append, List.cons_append, Nat.reduceAdd, Leaves.at]
  refine told_val (v := .bool ok) (fun _ => rfl) (fun vs W hW => ?_) ?_
  · go_simp
    exact loose_call (HEN.out W hW)
  simp only [Act.put, List.setIfInBounds_toArray, List.set_cons_zero, List.set_cons_succ, List.nil_append, List.cons_append, Nat.reduceAdd, Leaves.at]
  refine told_val (v := .bool (!ok)) (hw := fun _ => rfl) (hr := fun vs W hW => by clear hW; go_simp; exact loose_val) ?_
  simp only [Act.put, List.setIfInBounds_toArray, List.set_cons_zero, List.set_cons_succ, List.nil_append, List.cons_append, Nat.reduceAdd, Leaves.at]
  refine told_nil ?_
  intro vs W1 hW1 hok hap
  clear hap
  dsimp only
  have HW1 := hid hW1
  have HB1 := hid (HB.out.trans (since_below hW1 HB.out.size))
  have HK0 := hid (hW1.blk HP0.out (fun h => h))
  have HK1 := hid (hW1.blk HP1.out (fun h => h))
  have HK2 := hid (hW1.blk HP2.out (fun h => h))
  have HK3 := hid (hW1.blk HP3.out (fun h => h))
  have hle := HB1.out.size
  have HS1 : Hid (ThS (fun j => S j ∧ j < w.heap.size) W1 t p) := HSS.out.keep (hWa.out.trans hW1) (fun _ _ h => h)
  have HT1 := hid (HT.out.below (since_below hW1 HL0.out))
  have HU1 := hid (HU.out.below (since_below hW1 HL0.out))
  have hlk3 : w.heap.size + 1 + 1 + 1 < W1.heap.size := HK3.out.lt
  clear hok hW1 HF HP0 HP1 HP2 HP3 HW1 HEN HB
  cases ok with
  | false =>
    go_wp2_with (first
      | (with_reducible refine wpList_load61 t w.heap.size ?_ HK0.out ?_
         exact rfl)
      | (refine wpList_store61 t zeroTh (w.heap.size + 1 + 1 + 1) rfl rfl HK3.out ?_; intro w5 hb5 hk5))
    refine bodyPost_ret (th_run2 hk5 rfl _ rfl rfl) rfl ⟨t.l1, t.l2, t.links, t.data, rfl, ?_, hb5.done HB1.out (fun k e => by omega) hle⟩
    exact (HS1.out.keep hb5 (fun j hj e => by have : j = _ := e; have := hj.2; omega)).mono fun j hj => .inl hj.1
  | true =>
    go_wp2_with (first
      | (with_reducible refine wpList_load61 t w.heap.size ?_ HK0.out ?_
         exact rfl)
      | (with_reducible refine wpList_new61 t ?_ ?_ ?_
         · exact rfl
         · exact rfl
         have HB2 := hid (HB1.out.alloc hle (.cells (thC t) 61))
         have HW2 : Hid (But nil_ W1 (W1.alloc (.cells (thC t) 61))) := (But.refl nil_ W1).alloc _
         have HKb : Hid (Blk (W1.alloc (.cells (thC t) 61)) W1.heap.size 61 (thC t)) := Blk.new W1 61 _
         have hsb : (W1.alloc (.cells (thC t) 61)).heap.size = W1.heap.size + 1 := by simp
         generalize W1.alloc (.cells (thC t) 61) = wb at *))
    have HM2 := hid (HW2.out.blk HK2.out (fun h => h))
    have hD8 : ∀ j, at_ W1.heap.size j → w.heap.size ≤ j := fun j e => by have : j = _ := e; omega
    have HF : Hid (∀ W, But (at_ W1.heap.size) wb W → W.cell? ⟨w.heap.size + 1 + 1, 0, none⟩ = some (.int .i64 d) ∧ W.cell? ⟨w.heap.size + 1 + 1, 1, none⟩ = some (.slice A n c) ∧ W.cell? ⟨w.heap.size + 1 + 1, 2, none⟩ = some (.int .i64 e) ∧ W.cell? ⟨w.heap.size + 1 + 1, 3, none⟩ = some (.slice E m k)) := fun W hW => (hW.blk HM2.out (fun e => by have : _ = W1.heap.size := e; omega)).cells4
    refine wp_region_toldw 8 (at_ W1.heap.size) mixed (by kernel_rfl) ?_
    simp only [List.take_succ_cons, List.take_zero, List.drop_succ_cons, List.drop_zero]
    repeat (refine told_val (v := ?_) (fun _ => rfl) (fun vs W hW => ?_) ?_; rotate_left; (focus (have hf := HF.out W hW; clear hW; go_simp; exact loose_val)); simp only [Act.put, List.setIfInBounds_toArray, List.set_cons_zero, List.set_cons_succ, List.nil_append, List.cons_append, Nat.reduceAdd, Leaves.at])
    refine told_write0 (C := (fun W => Blk W W1.heap.size 61 (thC { t with d1 := d, l1 := ⟨A, n, c⟩ }))) (hs := (fun _ _ _ hb hk => hb.blk hk (fun x => x))) (hno := by kernel_rfl) (h0 := rfl) (hw := fun _ => rfl) (hr := fun vs W hW hd => ?_) ?_
    · exact loose_store (v := .agg #[.int .i64 d, .slice A n c]) (vs := [.int .i64 d, .slice A n c]) (cur := t.cells) rfl rfl rfl (hW.blk HKb.out (fun h => h)) rfl size26 (Nat.le_of_ble_eq_true rfl) (one_label _ _ _ _) rfl (fun W' hb hk => hk)
    simp only [Act.put, List.setIfInBounds_toArray, List.set_cons_zero, List.set_cons_succ, List.nil_append, List.cons_append, Nat.reduceAdd, Leaves.at]
    repeat (refine told_val (v := ?_) (fun _ => rfl) (fun vs W hW => ?_) ?_; rotate_left; (focus (have hf := HF.out W hW; clear hW; go_simp; exact loose_val)); simp only [Act.put, List.setIfInBounds_toArray, List.set_cons_zero, List.set_cons_succ, List.nil_append, List.cons_append, Nat.reduceAdd, Leaves.at])
    refine told_write1 (j := 5) (C0 := _) (C := (fun W => Blk W W1.heap.size 61 (thC { t with d1 := d, l1 := ⟨A, n, c⟩, d2 := e, l2 := ⟨E, m, k⟩ }))) (hj := rfl) (h1 := rfl) (hs := (fun _ _ _ hb hk => hb.blk hk (fun x => x))) (hno := by kernel_rfl) (hw := fun _ => rfl) (hr := fun vs W hW hC hd => ?_) ?_
    · exact loose_store (v := .agg #[.int .i64 e, .slice E m k]) (vs := [.int .i64 e, .slice E m k]) (cur := ({ t with d1 := d, l1 := ⟨A, n, c⟩ } : Th).cells) rfl rfl rfl hC rfl size26 (Nat.le_of_ble_eq_true rfl) (one_label _ _ _ _) rfl (fun W' hb hk => hk)
    simp only [Act.put, List.setIfInBounds_toArray, List.set_cons_zero, List.set_cons_succ, List.nil_append, List.cons_append, Nat.reduceAdd, Leaves.at]
    refine told_nil ?_
    intro vs W2 hW2 hok hap hwr
    have hC := hwr 7 _ rfl (noWr_of rfl)
    clear hap hwr
    dsimp only
    have HC2 := hid hC
    have HX2 : Hid (But (at_ W1.heap.size) W1 W2) := (HW2.out.into (fun _ x => x.elim)).trans hW2
    have HB3 := hid (hW2.done HB2.out hD8 (by omega))
    have HM0 := hid (HX2.out.blk HK0.out (fun e => by have : _ = W1.heap.size := e; omega))
    have HM1 := hid (HX2.out.blk HK1.out (fun e => by have : _ = W1.heap.size := e; omega))
    have HM3 := hid (HX2.out.blk HK3.out (fun e => by have : _ = W1.heap.size := e; omega))
    have hs2 : W1.heap.size + 1 ≤ W2.heap.size := by have := hW2.size; omega
    clear hok hW2 hC HF HB2 HKb HW2 hsb
    have f17 : W2.cell? ⟨w.heap.size + 1, 17, none⟩ = some (.int .u64 g.value) := (Blk.cell HM1.out 17).trans rfl
    go_wp2_with (first
      | (refine wpList_part (ty := 24) (g := W1.heap.size) (off := 10) (t := 61) (cur := ({ t with d1 := d, l1 := ⟨A, n, c⟩, d2 := e, l2 := ⟨E, m, k⟩ } : Th).cells) [.int .u64 g.value] rfl rfl HC2.out rfl size24' (Nat.le_of_ble_eq_true rfl) (one_of rfl) ?_
         intro w3 hb3 hk3
         have HC3 : Hid (Blk w3 W1.heap.size 61 (thC ((thruT t g d e).slices ⟨A, n, c⟩ ⟨E, m, k⟩ t.links t.data))) := hk3
         have HB4 := hid (hb3.done HB3.out (fun k e => by omega) (by omega))
         have HX3 : Hid (But (at_ W1.heap.size) W1 w3) := HX2.out.trans hb3
         have HN3 := hid (hb3.blk HM3.out (fun e => by omega))
         have hs3 : W1.heap.size + 1 ≤ w3.heap.size := by have := hb3.size; omega
         have HTL : Hid (ThAt w3 ((thruT t g d e).slices ⟨A, n, c⟩ ⟨E, m, k⟩ t.links t.data) (thruL p l r)) :=
           ⟨(HT1.out.below (HX3.out.done (Below.refl w.heap.size W1) hD8 hle)).more (by omega), (HU1.out.below (HX3.out.done (Below.refl w.heap.size W1) hD8 hle)).more (by omega), (HS1.out.keep HX3.out (fun j hj e => by have : j = _ := e; have := hj.2; omega)).at_.lk, (HS1.out.keep HX3.out (fun j hj e => by have : j = _ := e; have := hj.2; omega)).at_.dt⟩
         clear hb3 hk3)
      | (with_reducible refine wpList_load61 ((thruT t g d e).slices ⟨A, n, c⟩ ⟨E, m, k⟩ t.links t.data) W1.heap.size ?_ HC3.out ?_
         exact rfl)
      | (go_at_call 91
         refine (copy91 w3 _ _ HTL.out (Nat.le_succ_of_le zn) (Nat.le_succ_of_le zm) z3 z4).mono ?_
         rintro x w4 ⟨a1, a2, a3, a4, rfl, ha1, ha2, ha3, ha4, hb4⟩
         have HR := hid (ThS.fresh (t := (thruT t g d e).slices ⟨A, n, c⟩ ⟨E, m, k⟩ t.links t.data) ha1 ha2 ha3 ha4)
         have HB5 := hid (HB4.out.trans (hb4.mono HB4.out.size))
         have HN4 := hid (HN3.out.below hb4 HN3.out.lt)
         have hs4 : w3.heap.size ≤ w4.heap.size := hb4.size
         clear ha1 ha2 ha3 ha4 hb4)
      | (refine wpList_store61 (((thruT t g d e).slices ⟨A, n, c⟩ ⟨E, m, k⟩ t.links t.data).slices a1 a2 a3 a4) zeroTh (w.heap.size + 1 + 1 + 1) rfl rfl HN4.out ?_; intro w5 hb5 hk5))
    refine bodyPost_ret (th_run2 hk5 rfl _ rfl rfl) rfl ⟨a1, a2, a3, a4, rfl, ?_, hb5.done HB5.out (fun k e => by omega) (by omega)⟩
    have hz := hb5.size
    exact (HR.out.keep hb5 (fun j hj e => by have : j = _ := e; omega)).mono fun j hj => .inr ⟨by omega, by omega⟩

end Go.Proofs.Ytndohmimcbmhdaa

/- The document's Through. -/
set_option linter.unusedVariables false
set_option linter.unusedSimpArgs false
namespace Go.Proofs.Ytndohmimcbmhdaa
open Go.RowKit Go.Sort

set_option maxHeartbeats 8000000 in
set_option maxRecDepth 100000 in
theorem through79 (w : World) (t g : Th) (p q : Tl) (d : Int) (A : Option Addr) (n c : Nat) (l : List (Int × Int)) (e : Int) (E : Option Addr) (m k : Nat) (r : List (Int × Int)) (h : ThAt w t p) (hg : ThAt w g q) (s1 : Slim t) (s2 : Slim g)
    (tn : CatsAt w w.heap.size A n c l) (un : CatsAt w w.heap.size E m k r) (zn : n ≤ 8796093022207) (zm : m ≤ 8796093022207) :
    Calls Try.prog 79 #[.agg (thC t), .agg (thC g), .agg #[.int .i64 d, .slice A n c], .agg #[.int .i64 e, .slice E m k]] w fun x w' => RetS (fun j => j < w.heap.size) (bif thruB t p g q d l e r then thruT t g d e else t) (bif thruB t p g q d l e r then thruL p l r else p) (bif thruB t p g q d l e r then 0 else 181) w x w' := by
  obtain ⟨q0, q1, q2, q3, q4, q5⟩ := four_blk w (thC t) (thC g) #[.int .i64 d, .slice A n c] #[.int .i64 e, .slice E m k] 61 61 26 26
  have HB := hid (q0.alloc (by rw [q5]; omega) (.cells (thC zeroTh) 61))
  have HP0 := hid (q1.alloc (.cells (thC zeroTh) 61))
  have HP1 := hid (q2.alloc (.cells (thC zeroTh) 61))
  have HP2 := hid (q3.alloc (.cells (thC zeroTh) 61))
  have HP3 := hid (q4.alloc (.cells (thC zeroTh) 61))
  have HP4 := hid (Blk.new ((((w.alloc (.cells (thC t) 61)).alloc (.cells (thC g) 61)).alloc (.cells #[.int .i64 d, .slice A n c] 26)).alloc (.cells #[.int .i64 e, .slice E m k] 26)) 61 (thC zeroTh))
  rw [q5] at HP4
  have hsz := q5
  have H := hid (ThAt.in_ h HB.out)
  have HG := hid (ThAt.in_ hg HB.out)
  have HT := hid ((tn.below HB.out))
  have HU := hid ((un.below HB.out))
  have HL0 := hid (Nat.le_of_lt HP0.out.lt)
  have HEN : Hid (∀ W, But nil_ (((((w.alloc (.cells (thC t) 61)).alloc (.cells (thC g) 61)).alloc (.cells #[.int .i64 d, .slice A n c] 26)).alloc (.cells #[.int .i64 e, .slice E m k] 26)).alloc (.cells (thC zeroTh) 61)) W → Calls Try.prog 67 #[.agg #[.int .i64 t.d1, .slice t.l1.a t.l1.n t.l1.c], .agg #[.int .i64 t.d2, .slice t.l2.a t.l2.n t.l2.c], .agg #[.int .i64 g.d1, .slice g.l1.a g.l1.n g.l1.c], .agg #[.int .i64 g.d2, .slice g.l2.a g.l2.n g.l2.c], .agg #[.int .i64 d, .slice A n c], .agg #[.int .i64 e, .slice E m k]] W fun x w' => x = .returned (.bool (thruB t p g q d l e r)) ∧ Below W.heap.size W w') := fun W hW => by
    have a1 := (H.out.at_ HL0.out).since_ hW
    have a2 := (HG.out.at_ HL0.out).since_ hW
    exact f67v W _ _ _ _ _ _ _ _ _ _ _ _ _ _ _ _ _ _ _ _ _ _ _ _ _ _ _ _ _ _ a1.c1 s1.z1 a1.c2 s1.z2 a2.c1 s2.z1 a2.c2 s2.z2 ((HT.out.more HL0.out).since_ hW) zn ((HU.out.more HL0.out).since_ hW) zm
  clear q0 q1 q2 q3 q4 q5 h hg tn un
  generalize thruB t p g q d l e r = ok at *
  have hlt0 : w.heap.size + 1 + 1 + 1 + 1 < (((((w.alloc (.cells (thC t) 61)).alloc (.cells (thC g) 61)).alloc (.cells #[.int .i64 d, .slice A n c] 26)).alloc (.cells #[.int .i64 e, .slice E m k] 26)).alloc (.cells (thC zeroTh) 61)).heap.size := HP4.out.lt
  cases ok with
  | false =>
    obtain ⟨⟨f1, f2⟩, ⟨f3, f4⟩, _⟩ := Blk.cells26 HP0.out
    obtain ⟨⟨f5, f6⟩, ⟨f7, f8⟩, _⟩ := Blk.cells26 HP1.out
    obtain ⟨f9, f10⟩ := Blk.cells2 HP2.out
    obtain ⟨f11, f12⟩ := Blk.cells2 HP3.out
    go_enter Try.func79, Try.ntmps79
    go_wp2_with (first
      | (with_reducible refine wpList_alloc61 ?_
         rw [hsz]
         generalize ((((w.alloc (.cells (thC t) 61)).alloc (.cells (thC g) 61)).alloc (.cells #[.int .i64 d, .slice A n c] 26)).alloc (.cells #[.int .i64 e, .slice E m k] 26)).alloc (.cells (thC zeroTh) 61) = wa at *)
      | (go_at_call 67
         refine (HEN.out _ (But.refl nil_ _)).mono ?_
         rintro x W1 ⟨rfl, hb1⟩
         have HW1 := hid ((But.refl nil_ wa).below hb1)
         have HK0 := hid (HW1.out.blk HP0.out (fun h => h))
         have HK4 := hid (HW1.out.blk HP4.out (fun h => h))
         have HB1 := hid (HB.out.trans (since_below HW1.out HB.out.size))
         have HS1 : Hid (ThS (fun j => j < w.heap.size) W1 t p) := (H.out.s HL0.out).keep HW1.out (fun _ _ h => h)
         have hle := HB1.out.size
         have hlt1 : w.heap.size + 1 + 1 + 1 + 1 < W1.heap.size := HK4.out.lt
         clear hb1 f1 f2 f3 f4 f5 f6 f7 f8 f9 f10 f11 f12)
      | (with_reducible refine wpList_load61 t w.heap.size ?_ HK0.out ?_
         exact rfl)
      | ((with_reducible refine wpList_store61 t zeroTh (w.heap.size + 1 + 1 + 1 + 1) ?_ ?_ HK4.out ?_); exact rfl; exact rfl; intro w5 hb5 hk5))
    refine bodyPost_ret (th_run2 hk5 rfl _ rfl rfl) rfl ⟨t.l1, t.l2, t.links, t.data, rfl, ?_, hb5.done HB1.out (fun k e => by omega) hle⟩
    exact (HS1.out.keep hb5 (fun j hj e => by have : j = _ := e; omega)).mono fun j hj => .inl hj
  | true =>
    obtain ⟨⟨f1, f2⟩, ⟨f3, f4⟩, _⟩ := Blk.cells26 HP0.out
    obtain ⟨⟨f5, f6⟩, ⟨f7, f8⟩, _⟩ := Blk.cells26 HP1.out
    obtain ⟨f9, f10⟩ := Blk.cells2 HP2.out
    obtain ⟨f11, f12⟩ := Blk.cells2 HP3.out
    go_enter Try.func79, Try.ntmps79
    go_wp2_with (first
      | (with_reducible refine wpList_alloc61 ?_
         rw [hsz]
         generalize ((((w.alloc (.cells (thC t) 61)).alloc (.cells (thC g) 61)).alloc (.cells #[.int .i64 d, .slice A n c] 26)).alloc (.cells #[.int .i64 e, .slice E m k] 26)).alloc (.cells (thC zeroTh) 61) = wa at *)
      | (go_at_call 67
         refine (HEN.out _ (But.refl nil_ _)).mono ?_
         rintro x W1 ⟨rfl, hb1⟩
         have HW1 := hid ((But.refl nil_ wa).below hb1)
         have HK0 := hid (HW1.out.blk HP0.out (fun h => h))
         have HK1 := hid (HW1.out.blk HP1.out (fun h => h))
         have HK2 := hid (HW1.out.blk HP2.out (fun h => h))
         have HK3 := hid (HW1.out.blk HP3.out (fun h => h))
         have HK4 := hid (HW1.out.blk HP4.out (fun h => h))
         have HB1 := hid (HB.out.trans (since_below HW1.out HB.out.size))
         have HS1 : Hid (ThS (fun j => j < w.heap.size) W1 t p) := (H.out.s HL0.out).keep HW1.out (fun _ _ h => h)
         have HT1 := hid (HT.out.below (since_below HW1.out HL0.out))
         have HU1 := hid (HU.out.below (since_below HW1.out HL0.out))
         have hle := HB1.out.size
         have hlt1 : w.heap.size + 1 + 1 + 1 + 1 < W1.heap.size := HK4.out.lt
         clear hb1 f1 f2 f3 f4 f5 f6 f7 f8 f9 f10 f11 f12
         obtain ⟨g1, g2⟩ := Blk.cells2 HK2.out)
      | (with_reducible refine wpList_put61 t { t with d1 := d, l1 := ⟨A, n, c⟩ } w.heap.size 2 (.agg #[.int .i64 d, .slice A n c]) [.int .i64 d, .slice A n c] ?_ ?_ HK0.out ?_ ?_ ?_ ?_ ?_ ?_
         · exact rfl
         · exact rfl
         · exact rfl
         · exact size26
         · exact Nat.le_of_ble_eq_true rfl
         · exact one_label _ _ _ _
         · exact rfl
         intro w2 hb2 hk2
         have HC2 : Hid (Blk w2 w.heap.size 61 (thC { t with d1 := d, l1 := ⟨A, n, c⟩ })) := hk2
         have HX2 := hid hb2
         clear g1 g2 hb2 hk2
         obtain ⟨g3, g4⟩ := Blk.cells2 (HX2.out.blk HK3.out (fun e => by have : _ = w.heap.size := e; omega)))
      | (with_reducible refine wpList_put61 { t with d1 := d, l1 := ⟨A, n, c⟩ } { t with d1 := d, l1 := ⟨A, n, c⟩, d2 := e, l2 := ⟨E, m, k⟩ } w.heap.size 4 (.agg #[.int .i64 e, .slice E m k]) [.int .i64 e, .slice E m k] ?_ ?_ HC2.out ?_ ?_ ?_ ?_ ?_ ?_
         · exact rfl
         · exact rfl
         · exact rfl
         · exact size26
         · exact Nat.le_of_ble_eq_true rfl
         · exact one_label _ _ _ _
         · exact rfl
         intro w3 hb3 hk3
         have HC3 : Hid (Blk w3 w.heap.size 61 (thC { t with d1 := d, l1 := ⟨A, n, c⟩, d2 := e, l2 := ⟨E, m, k⟩ })) := hk3
         have HX3 := hid (HX2.out.trans hb3)
         clear g3 g4 hb3 hk3
         have g5 : w3.cell? ⟨w.heap.size + 1, 17, none⟩ = some (.int .u64 g.value) := (Blk.cell (HX3.out.blk HK1.out (fun e => by have : _ = w.heap.size := e; omega)) 17).trans rfl)
      | (with_reducible refine wpList_put61 { t with d1 := d, l1 := ⟨A, n, c⟩, d2 := e, l2 := ⟨E, m, k⟩ } ((thruT t g d e).slices ⟨A, n, c⟩ ⟨E, m, k⟩ t.links t.data) w.heap.size 10 (.int .u64 g.value) [.int .u64 g.value] ?_ ?_ HC3.out ?_ ?_ ?_ ?_ ?_ ?_
         · exact rfl
         · exact rfl
         · exact rfl
         · exact size24'
         · exact Nat.le_of_ble_eq_true rfl
         · exact one_of rfl
         · exact rfl
         intro w4 hb4 hk4
         have HC4 : Hid (Blk w4 w.heap.size 61 (thC ((thruT t g d e).slices ⟨A, n, c⟩ ⟨E, m, k⟩ t.links t.data))) := hk4
         have HX4 := hid (HX3.out.trans hb4)
         have HN4 := hid (HX4.out.blk HK4.out (fun e => by have : _ = w.heap.size := e; omega))
         clear g5 hb4 hk4)
      | (with_reducible refine wpList_load61 ((thruT t g d e).slices ⟨A, n, c⟩ ⟨E, m, k⟩ t.links t.data) w.heap.size ?_ HC4.out ?_
         exact rfl)
      | ((with_reducible refine wpList_store61 ((thruT t g d e).slices ⟨A, n, c⟩ ⟨E, m, k⟩ t.links t.data) zeroTh (w.heap.size + 1 + 1 + 1 + 1) ?_ ?_ HN4.out ?_); exact rfl; exact rfl; intro w5 hb5 hk5))
    have hB4 := HX4.out.done HB1.out (fun k e => by have : k = _ := e; omega) hle
    have hB5 := hb5.done hB4 (fun k e => by omega) (by have := hB4.size; omega)
    have hX5 : But (fun j => j = w.heap.size ∨ j = w.heap.size + 1 + 1 + 1 + 1) W1 w5 := (HX4.out.into fun j e => .inl e).trans (hb5.into fun j e => .inr e)
    have hS5 := (HS1.out.keep hX5 (fun j hj e => by omega))
    have hX6 := hX5.done (Below.refl w.heap.size W1) (fun j e => by omega) hle
    refine bodyPost_ret (th_run2 hk5 rfl _ rfl rfl) rfl ⟨⟨A, n, c⟩, ⟨E, m, k⟩, t.links, t.data, rfl, ?_, hB5⟩
    refine ⟨⟨(HT1.out.below hX6).more hB5.size, (HU1.out.below hX6).more hB5.size, hS5.at_.lk, hS5.at_.dt⟩, ?_, ?_, ?_, ?_⟩
    · exact (SlIn.cats (s := ⟨A, n, c⟩) HT1.out).mono fun j hj => .inl hj
    · exact (SlIn.cats (s := ⟨E, m, k⟩) HU1.out).mono fun j hj => .inl hj
    · exact hS5.b3.mono fun j hj => .inl hj
    · exact hS5.b4.mono fun j hj => .inl hj
end Go.Proofs.Ytndohmimcbmhdaa

/- What a minted category makes of a thread. -/
set_option linter.unusedVariables false
set_option linter.unusedSimpArgs false
namespace Go.Proofs.Ytndohmimcbmhdaa
open Go.RowKit Go.Sort

/-- What comes out: a thing and its lists, the category, the error. -/
structure Mi where
  t : Th
  p : Tl
  cat : Int
  err : Int
def mintN (t : Th) (boot : Int) : Int := if t.boot = boot then t.minted else 0
def mintCat (t : Th) (boot : Int) : Int := t.id * 8192 + boot * 32 + (mintN t boot + 1)
def mintL (t : Th) (p : Tl) (boot : Int) : List (Int × Int) := formL t.d1 ((mintCat t boot, 0) :: p.l1)
def mintC (t : Th) (p : Tl) (boot : Int) : List (Int × Int) := formL t.d2 ((mintCat t boot, 4) :: p.l2)
def mintO (t : Th) (p : Tl) (boot : Int) : Mi :=
  if 31 ≤ mintN t boot then ⟨t, p, 0, 182⟩
  else bif rightB t.d1 (mintL t p boot) && rightB t.d2 (mintC t p boot) then ⟨{ t with boot := boot, minted := mintN t boot + 1 }, { p with l1 := mintL t p boot, l2 := mintC t p boot }, mintCat t boot, 0⟩ else ⟨t, p, 0, 91⟩
/-- A thread of which a category can be made: numbers in their bounds, lists as long as may be. -/
structure Minty (t : Th) (boot : Int) : Prop where
  id0 : 1 ≤ t.id
  id1 : t.id ≤ 281474976710655
  b0 : 0 ≤ boot
  b1 : boot ≤ 255
  m0 : 0 ≤ t.minted
  m1 : t.minted ≤ 31
  z1 : t.l1.n ≤ 67108864
  z2 : t.l2.n ≤ 67108864
  z3 : t.links.n ≤ 8796093022207
  z4 : t.data.n ≤ 140737488355328
def RetMint (o : Mi) (w : World) (e : Ending) (w' : World) : Prop := ∃ a b c d : Sl, e = .returned (.tuple #[.agg (thC (o.t.slices a b c d)), .int .u64 o.cat, .int .i64 o.err]) ∧ ThAt w' (o.t.slices a b c d) o.p ∧ Below w.heap.size w w'
def RetMintS (S : Nat → Prop) (o : Mi) (w : World) (e : Ending) (w' : World) : Prop := ∃ a b c d : Sl, e = .returned (.tuple #[.agg (thC (o.t.slices a b c d)), .int .u64 o.cat, .int .i64 o.err]) ∧ ThS (fun k => S k ∨ (w.heap.size ≤ k ∧ k < w'.heap.size)) w' (o.t.slices a b c d) o.p ∧ Below w.heap.size w w'
theorem th_run3 {w : World} {g : Nat} {t : Th} {v u : Value} (h : Blk w g 61 (thC t)) {fn : Func} {p q r : Tmp} (hf : fn.results = #[.cell p 61, .tmp q, .tmp r]) (tmps : Array Value) (hp : tmps.getD p undef = .pointer (some ⟨g, 0, none⟩)) (hq : tmps.getD q undef = v) (hr : tmps.getD r undef = u) :
    (results fn tmps).run Try.prog w = .ok (.tuple #[.agg (thC t), v, u]) w := by
  have hp' : tmps[p]?.getD undef = .pointer (some ⟨g, 0, none⟩) := by simpa using hp
  have hq' : tmps[q]?.getD undef = v := by simpa using hq
  have hr' : tmps[r]?.getD undef = u := by simpa using hr
  have hl := run_loadVar_row (P := Try.prog) w g 61 61 (thC t) (0, 0) _ h Try.underlying61 rfl th_info
  simp [results, hf, hp', hq', hr', asAddr, hl]
theorem mintN_in {t : Th} {boot : Int} (h : Minty t boot) : 0 ≤ mintN t boot ∧ mintN t boot ≤ 31 := by
  have := h.m0; have := h.m1
  unfold mintN; split <;> omega
end Go.Proofs.Ytndohmimcbmhdaa
