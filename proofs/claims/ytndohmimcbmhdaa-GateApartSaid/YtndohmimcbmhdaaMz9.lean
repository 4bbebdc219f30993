/- label.merge. -/
import Derived.Test.YtndohmimcbmhdaaMz8
set_option linter.unusedVariables false
set_option linter.unusedSimpArgs false
namespace Go.Proofs.Ytndohmimcbmhdaa
open Go.RowKit Go.Sort

/-- What a choice between two levels must do, from w on. -/
def ChooseOk (fn : Nat) (cb : Array Value) (f : Int → Int → Int) (w : World) : Prop :=
  ∀ W, Below w.heap.size w W → ∀ x y : Int, Calls Try.prog fn (#[.int .i64 x, .int .i64 y] ++ cb) W fun e w' => e = .returned (.int .i64 (f x y)) ∧ Below W.heap.size W w'

def mergeC (f : Int → Int → Int) (d : Int) (cs : List (Int × Int)) (d' : Int) (cs' : List (Int × Int)) (x : Int × Int) : Int × Int := (x.1, f (levelL d cs x.1) (levelL d' cs' x.1))
def mergeL (f : Int → Int → Int) (d : Int) (cs : List (Int × Int)) (d' : Int) (cs' : List (Int × Int)) : List (Int × Int) := (cs ++ cs').map (mergeC f d cs d' cs')

/-- Four new blocks. -/
theorem four_blk (w : World) (a b l s : Array Value) (ta tb tl ts : TypeId) :
    Below w.heap.size w ((((w.alloc (.cells a ta)).alloc (.cells b tb)).alloc (.cells l tl)).alloc (.cells s ts)) ∧ Blk ((((w.alloc (.cells a ta)).alloc (.cells b tb)).alloc (.cells l tl)).alloc (.cells s ts)) w.heap.size ta a ∧
    Blk ((((w.alloc (.cells a ta)).alloc (.cells b tb)).alloc (.cells l tl)).alloc (.cells s ts)) (w.heap.size + 1) tb b ∧ Blk ((((w.alloc (.cells a ta)).alloc (.cells b tb)).alloc (.cells l tl)).alloc (.cells s ts)) (w.heap.size + 1 + 1) tl l ∧
    Blk ((((w.alloc (.cells a ta)).alloc (.cells b tb)).alloc (.cells l tl)).alloc (.cells s ts)) (w.heap.size + 1 + 1 + 1) ts s ∧ ((((w.alloc (.cells a ta)).alloc (.cells b tb)).alloc (.cells l tl)).alloc (.cells s ts)).heap.size = w.heap.size + 1 + 1 + 1 + 1 := by
  have e1 : (w.alloc (.cells a ta)).heap.size = w.heap.size + 1 := by simp
  have e2 : ((w.alloc (.cells a ta)).alloc (.cells b tb)).heap.size = w.heap.size + 1 + 1 := by simp
  have e3 : (((w.alloc (.cells a ta)).alloc (.cells b tb)).alloc (.cells l tl)).heap.size = w.heap.size + 1 + 1 + 1 := by simp
  have b2 := Blk.new (w.alloc (.cells a ta)) tb b
  have b3 := Blk.new ((w.alloc (.cells a ta)).alloc (.cells b tb)) tl l
  have b4 := Blk.new (((w.alloc (.cells a ta)).alloc (.cells b tb)).alloc (.cells l tl)) ts s
  rw [e1] at b2; rw [e2] at b3; rw [e3] at b4
  exact ⟨((((Below.refl _ w).alloc (Nat.le_refl _) _).alloc (by omega) _).alloc (by omega) _).alloc (by omega) _, (((Blk.new w ta a).alloc _).alloc _).alloc _, (b2.alloc _).alloc _, b3.alloc _, b4, by simp⟩

theorem map_take (g : Int × Int → Int × Int) (l : List (Int × Int)) (k : Nat) (x : Int × Int) (h : l[k]? = some x) : (l.take (k + 1)).map g = (l.take k).map g ++ [g x] := by
  rw [List.take_add_one, h]; simp

theorem two_new (W : World) (a b : Value) : Reads (W.alloc (.cells #[a, b] 32)) (W.heap.size + 1) 2 (some ⟨W.heap.size, 0, none⟩) 1 [a, b] := by
  refine ⟨rfl, fun _ => ⟨_, rfl, Nat.lt_succ_self _, fun j u hu => ?_⟩⟩
  have hB := Blk.new W 32 #[a, b]
  match j, hu with
  | 0, hu => simp at hu; subst hu; exact (Blk.cell hB 0).trans rfl
  | 1, hu => simp at hu; subst hu; exact (Blk.cell hB 1).trans rfl
theorem owns_below {a b : World} {base : Nat} {v : Value} {n : Nat} {xs : List Value} (h : a.ownsRow base 32 2 v n xs) (hb : Below a.heap.size a b) : b.ownsRow base 32 2 v n xs :=
  World.ownsRow.kept (row := none) h (only_of_below hb none) (by cases v.ownBlock <;> simp)

theorem OwnCats.mono {w : World} {b b' : Nat} {v : Value} {cs : List (Int × Int)} (h : OwnCats w b v cs) (hb : b' ≤ b) : OwnCats w b' v cs := by
  rcases h with h | ⟨g, cap, tl, e, hg, hr⟩
  · exact .inl h
  · exact .inr ⟨g, cap, tl, e, by omega, hr⟩
theorem OwnCats.far {w : World} {b : Nat} {v : Value} {cs : List (Int × Int)} (h : OwnCats w b v cs) {p : Addr} (hp : p.block < b) (u : Value) : OwnCats (w.setCell p u) b v cs := by
  rcases h with h | ⟨g, cap, tl, e, hg, hc, hm, hr, hl⟩
  · exact .inl h
  · exact .inr ⟨g, cap, tl, e, hg, hc, hm, hr.far (by omega) u, hl⟩

theorem level_b (w : World) (d : Int) (A : Option Addr) (n c : Nat) (cs : List (Int × Int)) (id : Int) (h : CatsAt w w.heap.size A n c cs) :
    Calls Try.prog 37 #[.agg #[.int .i64 d, .slice A n c], .int .u64 id] w fun e w' => e = .returned (.int .i64 (levelL d cs id)) ∧ Below w.heap.size w w' :=
  (level37 w d A n c cs id h).mono fun e w' ⟨he, q, os, hw⟩ => ⟨he, by subst hw; exact grown_below q os⟩

set_option maxHeartbeats 4000000 in
set_option maxRecDepth 100000 in
theorem merge103 (w : World) (d d' : Int) (A A' : Option Addr) (n c n' c' : Nat) (cs cs' : List (Int × Int)) (fn : Nat) (cb : Array Value) (f : Int → Int → Int) (h : CatsAt w w.heap.size A n c cs) (h' : CatsAt w w.heap.size A' n' c' cs') (hn : n + n' ≤ 8796093022208)
    (hf : ChooseOk fn cb f w) (eg : ∀ args w, (callFunc fn args).run Try.prog w = .ok (.enter fn args) w) :
    Calls Try.prog 103 #[.agg #[.int .i64 d, .slice A n c], .agg #[.int .i64 d', .slice A' n' c'], .func (.func fn) #[] cb] w fun e w' => Made (f d d') (mergeL f d cs d' cs') w e w' := by
  have mixed : Try.prog.follows .mixedOrders = true := by kernel_rfl
  obtain ⟨i0, hi0, hz0, hz1, hz2⟩ := info_parts cat_info
  have H := hid h
  have H' := hid h'
  have HFN : Hid (ChooseOk fn cb f w) := hf
  have HL := hid h.len
  have HL' := hid h'.len
  clear h h' hf
  obtain ⟨q1, q2, q3, q4, q5, q6⟩ := four_blk w #[.int .i64 d, .slice A n c] #[.int .i64 d', .slice A' n' c'] #[.int .i64 0, .slice none 0 0] #[.slice A n c, .slice A' n' c'] 26 26 26 23
  have HB0 := hid q1
  have HP1 := hid q2
  have HP2 := hid q3
  have HP3 := hid q4
  have HP5 := hid q5
  have HSZ := hid q6
  clear q1 q2 q3 q4 q5 q6
  go_enter Try.func103, Try.ntmps103
  go_wp2_with fail
  generalize (((w.alloc (.cells #[.int .i64 d, .slice A n c] 26)).alloc (.cells #[.int .i64 d', .slice A' n' c'] 26)).alloc (.cells #[.int .i64 0, .slice none 0 0] 26)).alloc (.cells #[.slice A n c, .slice A' n' c'] 23) = wb at *
  refine (concat151 wb _ A A' n c n' c' cs cs' HP5.out ((H.out.below HB0.out).more HB0.out.size) ((H'.out.below HB0.out).more HB0.out.size) hn).mono ?_
  rintro e w1 ⟨v, rfl, hv, hb1⟩
  have HB1 := hid (HB0.out.trans (hb1.mono HB0.out.size))
  have K1 := hid (HP1.out.below hb1 HP1.out.lt)
  have K2 := hid (HP2.out.below hb1 HP2.out.lt)
  have K3 := hid (HP3.out.below hb1 HP3.out.lt)
  obtain ⟨A1, m, c1, rfl, hT⟩ := hv.at_
  have HT := hid hT
  have hml : (cs ++ cs').length = m := hT.len
  have hm0 : m ≤ 8796093022208 := by rw [← hml, List.length_append]; have := HL.out; have := HL'.out; omega
  have HML := hid hml
  clear hb1 hv hT HP1 HP2 HP3 HP5 HSZ hml
  go_wp2_with fail
  go_loopw [7, 17] (fun va vi wr => ∃ k : Nat, k ≤ m ∧ vi = .int .i64 k ∧ Hid (Below w1.heap.size w1 wr) ∧ Hid (wr.ownsRow w1.heap.size 32 2 va k (flat (((cs ++ cs').take k).map (mergeC f d cs d' cs'))))) (fun _ vi _ => m - (intOf vi).toNat)
  case atStart => exact ⟨0, Nat.zero_le _, rfl, Below.refl _ _, World.ownsRow_nil _ _ _ _⟩
  case round =>
    obtain ⟨k, hk, rfl, BW, OW⟩ := hrel
    by_cases hlt : k < m
    · have hltz : (k : Int) < (m : Int) := by omega
      obtain ⟨b, off, x, rfl, hbB, hx, c0, c1'⟩ := (HT.out.below BW.out).at_ hlt
      have HMT := hid (map_take (mergeC f d cs d' cs') (cs ++ cs') k x hx)
      clear hx
      go_wp2_with fail
      have BX := hid (BW.out.alloc BW.out.size (.cells #[.int .u64 x.1, .int .i64 x.2] 32))
      have PX : Blk (wr.alloc (.cells #[.int .u64 x.1, .int .i64 x.2] 32)) wr.heap.size 32 #[.int .u64 x.1, .int .i64 x.2] := Blk.new wr 32 _
      have OX := hid (World.ownsRow.alloc OW.out (.cells #[.int .u64 x.1, .int .i64 x.2] 32))
      have hwrlt := BW.out.size
      generalize hwx : wr.alloc (.cells #[.int .u64 x.1, .int .i64 x.2] 32) = wx at *
      have HF : Hid (∀ W, Below wx.heap.size wx W → ((W.cell? ⟨w.heap.size, 0, none⟩ = some (.int .i64 d) ∧ W.cell? ⟨w.heap.size, 1, none⟩ = some (.slice A n c)) ∧ (W.cell? ⟨w.heap.size + 1, 0, none⟩ = some (.int .i64 d') ∧ W.cell? ⟨w.heap.size + 1, 1, none⟩ = some (.slice A' n' c')) ∧ W.cell? ⟨wr.heap.size, 0, none⟩ = some (.int .u64 x.1))) := by
        intro W hW
        have q1 := (K1.out.below BX.out K1.out.lt).below hW (Nat.lt_of_lt_of_le K1.out.lt BX.out.size)
        have q2 := (K2.out.below BX.out K2.out.lt).below hW (Nat.lt_of_lt_of_le K2.out.lt BX.out.size)
        have q3 := PX.below hW PX.lt
        exact ⟨⟨(Blk.cell q1 0).trans rfl, (Blk.cell q1 1).trans rfl⟩, ⟨(Blk.cell q2 0).trans rfl, (Blk.cell q2 1).trans rfl⟩, (Blk.cell q3 0).trans rfl⟩
      have HG : Hid (∀ W W', Below wx.heap.size wx W → W.grownBy W' u7.ownBlock → ((W'.cell? ⟨w.heap.size, 0, none⟩ = some (.int .i64 d) ∧ W'.cell? ⟨w.heap.size, 1, none⟩ = some (.slice A n c)) ∧ (W'.cell? ⟨w.heap.size + 1, 0, none⟩ = some (.int .i64 d') ∧ W'.cell? ⟨w.heap.size + 1, 1, none⟩ = some (.slice A' n' c')) ∧ W'.cell? ⟨wr.heap.size, 0, none⟩ = some (.int .u64 x.1))) := by
        intro W W' hW hg
        have q1 := (K1.out.below BX.out K1.out.lt).below hW (Nat.lt_of_lt_of_le K1.out.lt BX.out.size)
        have q2 := (K2.out.below BX.out K2.out.lt).below hW (Nat.lt_of_lt_of_le K2.out.lt BX.out.size)
        have q3 := PX.below hW PX.lt
        have hlt := World.ownsRow.lt OW.out
        have r1 := q1.grown hg (fun e => by have := (hlt _ e.symm).1; have := K1.out.lt; omega)
        have r2 := q2.grown hg (fun e => by have := (hlt _ e.symm).1; have := K2.out.lt; omega)
        have r3 := q3.grown hg (fun e => by have := (hlt _ e.symm).2; omega)
        exact ⟨⟨(Blk.cell r1 0).trans rfl, (Blk.cell r1 1).trans rfl⟩, ⟨(Blk.cell r2 0).trans rfl, (Blk.cell r2 1).trans rfl⟩, (Blk.cell r3 0).trans rfl⟩
      have HO : Hid (∀ W, Below wx.heap.size wx W → W.ownsRow w1.heap.size 32 2 u7 k (flat (((cs ++ cs').take k).map (mergeC f d cs d' cs')))) := fun W hW => owns_below OX.out hW
      have hwb : w.heap.size ≤ wx.heap.size := Nat.le_trans (Nat.le_of_lt K1.out.lt) BX.out.size
      have HWX := hid (HB1.out.trans (BX.out.mono HB1.out.size))
      have HC1 : Hid (∀ W, Below wx.heap.size wx W → ∀ aa, aa = #[.agg #[.int .i64 d, .slice A n c], .int .u64 x.1] → Calls Try.prog 37 aa W fun e w' => e = .returned (.int .i64 (levelL d cs x.1)) ∧ Below W.heap.size W w') := by
        rintro W hW aa rfl
        have hb : Below w.heap.size w W := HWX.out.trans (hW.mono hwb)
        exact level_b W d A n c cs x.1 ((H.out.below hb).more hb.size)
      have HC2 : Hid (∀ W, Below wx.heap.size wx W → ∀ aa, aa = #[.agg #[.int .i64 d', .slice A' n' c'], .int .u64 x.1] → Calls Try.prog 37 aa W fun e w' => e = .returned (.int .i64 (levelL d' cs' x.1)) ∧ Below W.heap.size W w') := by
        rintro W hW aa rfl
        have hb : Below w.heap.size w W := HWX.out.trans (hW.mono hwb)
        exact level_b W d' A' n' c' cs' x.1 ((H'.out.below hb).more hb.size)
      have HC3 : Hid (∀ W, Below wx.heap.size wx W → ∀ x y : Int, Calls Try.prog fn (#[.int .i64 x, .int .i64 y] ++ cb) W fun e w' => e = .returned (.int .i64 (f x y)) ∧ Below W.heap.size W w') := by
        intro W hW
        exact HFN.out W (HWX.out.trans (hW.mono hwb))
      have HNW : Hid (mergeC f d cs d' cs' x = (x.1, f (levelL d cs x.1) (levelL d' cs' x.1))) := rfl
      obtain ⟨⟨f1, f2⟩, ⟨f3, f4⟩, f5⟩ := HF.out wx (Below.refl _ _)
      have hw1x := BX.out.size
      clear PX OX c0 c1' hwx
      generalize levelL d cs x.1 = l1 at *
      generalize levelL d' cs' x.1 = l2 at *
      go_region_held3 (fun w' => ((w'.cell? ⟨w.heap.size, 0, none⟩ = some (.int .i64 d) ∧ w'.cell? ⟨w.heap.size, 1, none⟩ = some (.slice A n c)) ∧ (w'.cell? ⟨w.heap.size + 1, 0, none⟩ = some (.int .i64 d') ∧ w'.cell? ⟨w.heap.size + 1, 1, none⟩ = some (.slice A' n' c')) ∧ w'.cell? ⟨wr.heap.size, 0, none⟩ = some (.int .u64 x.1)))
        (first | go_keep | exact HF.out _ hbx | exact HF.out _ (hbx.alloc hbx.size _) | exact HG.out _ _ (hbx.alloc hbx.size _) hgx)
        (first
          | (go_at_call 37; refine (HC2.out _ hbx _ ?_).mono ?_; exact rfl; rintro e w2 ⟨rfl, hb2⟩; have hbx : Below wx.heap.size wx w2 := hbx.trans (hb2.mono hbx.size))
          | (go_at_call 37; refine (HC1.out _ (Below.refl _ _).drew _ ?_).mono ?_; exact rfl; rintro e w2 ⟨rfl, hb2⟩; have hbx : Below wx.heap.size wx w2 := (Below.refl _ wx).drew.trans hb2)
          | (go_at_fn fn; refine (HC3.out _ hbx _ _).mono ?_; rintro e w2 ⟨rfl, hb2⟩; have hbx : Below wx.heap.size wx w2 := hbx.trans (hb2.mono hbx.size))
          | (refine step_append_any _ rfl (.tmp 21) (.tmp 35) _ rfl w1.heap.size 32 i0 _ 2 16 Try.underlying23 hi0 hz0 hz1 hz2 rfl (by omega) u7 _ _ rfl (HO.out _ (hbx.alloc hbx.size _)) _ _ 1 1 [.int .u64 x.1, .int .i64 (f l1 l2)] rfl (two_new _ _ _) (by simp [Value.oneCell']) (by simp only [maxLen]; omega) (by omega) (by have := hbx.size; simp; omega) ?_; intro v1 w5 hown1 hgx hat1))
      have HO1 := hid hown1
      have hsx : w1.heap.size ≤ w2.heap.size := Nat.le_trans hw1x hbx.size
      have b1 : Below w1.heap.size w1 w2 := BX.out.trans (hbx.mono hw1x)
      have b2 : Below w1.heap.size w1 (w2.alloc (.cells #[.int .u64 x.1, .int .i64 (f l1 l2)] 32)) := b1.alloc hsx _
      have hsy : w1.heap.size ≤ (w2.alloc (.cells #[.int .u64 x.1, .int .i64 (f l1 l2)] 32)).heap.size := Nat.le_trans hsx (by simp)
      have b3 : Below w1.heap.size w1 w5 := b2.grown hgx hsy (fun g hg => (World.ownsRow.lt OW.out g hg).1)
      have HB5 := hid b3
      clear b1 b2 b3 hsx hsy
      clear hown1 hgx hat1 hbx hb2
      go_wp2_with fail
      go_roundw
      case measure => simp [intOf] <;> omega
      case rel => exact ⟨k + 1, by omega, by go_num, HB5.out, by rw [HMT.out, flat_append, HNW.out]; exact HO1.out⟩
    · have hltz : ¬ (k : Int) < (m : Int) := by omega
      have hkm : k = m := by omega
      subst hkm
      have eL : (((cs ++ cs').take k).map (mergeC f d cs d' cs')) = mergeL f d cs d' cs' := by rw [List.take_of_length_le (by rw [HML.out]; exact Nat.le_refl _)]; rfl
      have hlen : (mergeL f d cs d' cs').length = k := by unfold mergeL; rw [List.length_map, HML.out]
      have hv := OW.out
      rw [eL] at hv
      have hv2 : OwnCats wr w1.heap.size u7 (mergeL f d cs d' cs') := OwnCats.of_own (by rw [hlen]; exact hv)
      obtain ⟨A2, n2, c2, rfl, hT2⟩ := hv2.at_
      have hn2 : n2 = k := by rw [← hT2.len, hlen]
      have K1r := K1.out.below BW.out K1.out.lt
      have K2r := K2.out.below BW.out K2.out.lt
      have HK3 := hid (K3.out.below BW.out K3.out.lt)
      have f1 : wr.cell? ⟨w.heap.size, 0, none⟩ = some (.int .i64 d) := (Blk.cell K1r 0).trans rfl
      have f2 : wr.cell? ⟨w.heap.size + 1, 0, none⟩ = some (.int .i64 d') := (Blk.cell K2r 0).trans rfl
      have HWR := hid (HB1.out.trans (BW.out.mono HB1.out.size))
      have HT2 := hid hT2
      have HK3s := K3.out.lt
      clear eL hlen hv hv2 hT2 K1r K2r OW
      subst hn2
      generalize hL : mergeL f d cs d' cs' = L at *
      have HLQ := hid hL
      clear hL
      go_wp2_with fail
      refine (HFN.out wr HWR.out d d').mono ?_
      rintro e w2 ⟨rfl, hb2⟩
      have HB2 := hid hb2
      clear hb2
      go_wp2_with fail
      refine (make34 w2 (f d d') A2 n2 c2 L ((HT2.out.below HB2.out).more HB2.out.size) (by omega)).mono ?_
      rintro e w3 ⟨v, F, rfl, hv, hF, hb3⟩
      obtain ⟨A3, n3, c3, rfl, _⟩ := hv.at_
      have k2 := HK3.out.below HB2.out HK3.out.lt
      have k3 := k2.below hb3 k2.lt
      have z0 : w3.cell? ⟨w.heap.size + 1 + 1, 0, none⟩ = some (.int .i64 0) := (Blk.cell k3 0).trans rfl
      have z1 : w3.cell? ⟨w.heap.size + 1 + 1, 1, none⟩ = some (.slice none 0 0) := (Blk.cell k3 1).trans rfl
      have z2 := Blk.frozen k3 0
      have z3 := Blk.frozen k3 1
      have HK := hid k3
      have HV := hid hv
      have HF := hid hF
      have hs2 := k2.lt
      have HB3 := hid (belowT (belowT HWR.out HB2.out) hb3)
      clear k2 k3 hv hF hb3
      go_wp2_with fail
      refine bodyPost_ret (label_run (label_put HK.out _ _) rfl _ rfl) rfl ?_
      exact ⟨_, F, rfl, ((HV.out.far (p := ⟨w.heap.size + 1 + 1, 0, none⟩) hs2 _).far (p := ⟨w.heap.size + 1 + 1, 1, none⟩) hs2 _).mono (by omega), (by rw [HLQ.out]; exact HF.out), (HB3.out.setCell (p := ⟨w.heap.size + 1 + 1, 0, none⟩) (by show w.heap.size ≤ w.heap.size + 1 + 1; omega) _).setCell (p := ⟨w.heap.size + 1 + 1, 1, none⟩) (by show w.heap.size ≤ w.heap.size + 1 + 1; omega) _⟩
end Go.Proofs.Ytndohmimcbmhdaa

/- The document's answer for labels, plain: identifiers, forms, orders, merges. -/
set_option linter.unusedVariables false
set_option linter.unusedSimpArgs false
namespace Go.Proofs.Ytndohmimcbmhdaa
open Go.RowKit

/-! ### Identifiers, rising, each once -/
def stepI (c : Int) (s : List Int × Bool) (id : Int) : List Int × Bool :=
  ((if s.2 = false ∧ id ≥ c then s.1 ++ [c] else s.1) ++ (if id ≠ c then [id] else []), s.2 || decide (id ≥ c))
def insS (c : Int) (out : List Int) : List Int × Bool := out.foldl (stepI c) ([], false)
def insL (c : Int) (out : List Int) : List Int := if (insS c out).2 then (insS c out).1 else (insS c out).1 ++ [c]
def idsL (cs : List (Int × Int)) : List Int := cs.foldl (fun out c => insL c.1 out) []

theorem stepI_done (c : Int) : ∀ (l a : List Int), l.foldl (stepI c) (a, true) = (a ++ l.filter (fun x => x ≠ c), true) := by
  intro l
  induction l with
  | nil => intro a; simp
  | cons x l ih =>
    intro a
    rw [List.foldl_cons]
    have e : stepI c (a, true) x = (a ++ (if x ≠ c then [x] else []), true) := by simp [stepI]
    rw [e, ih]
    by_cases h : x = c <;> simp [h]

/-- Where a name stands in a rising list, and what is there then. -/
theorem insS_from (c : Int) : ∀ (l a : List Int), (a ++ l).Pairwise (· < ·) → (∀ x ∈ a, x < c) →
    ∃ r, (if (l.foldl (stepI c) (a, false)).2 then (l.foldl (stepI c) (a, false)).1 else (l.foldl (stepI c) (a, false)).1 ++ [c]) = r ∧ r.Pairwise (· < ·) ∧ (∀ x, x ∈ r ↔ x = c ∨ x ∈ a ∨ x ∈ l) ∧ r.length ≤ a.length + l.length + 1 := by
  intro l
  induction l with
  | nil =>
    intro a h ha
    refine ⟨a ++ [c], by simp, ?_, fun x => by grind, by grind⟩
    rw [List.append_nil] at h
    rw [List.pairwise_append]
    exact ⟨h, List.pairwise_singleton _ _, fun x hx y hy => by simp at hy; subst hy; exact ha x hx⟩
  | cons x l ih =>
    intro a h ha
    rw [List.foldl_cons]
    by_cases hx : x ≥ c
    · have hx2 : x ∉ a := fun hm => by have := ha x hm; omega
      have hlx : ∀ y ∈ l, x < y := by
        have h2 := (List.pairwise_append.1 h).2.1
        rw [List.pairwise_cons] at h2
        exact h2.1
      have hlf : l.filter (fun y => y ≠ c) = l := by
        rw [List.filter_eq_self]
        intro y hy
        have := hlx y hy
        simp; omega
      have hl2 := (List.pairwise_append.1 h).2.1
      have ha2 := (List.pairwise_append.1 h).1
      have e : stepI c (a, false) x = ((a ++ [c]) ++ (if x ≠ c then [x] else []), true) := by simp [stepI, hx]
      rw [e, stepI_done, hlf]
      refine ⟨_, rfl, ?_, fun y => ?_, by by_cases hc : x = c <;> simp [hc] <;> grind⟩
      · simp only [if_true]
        by_cases hc : x = c
        · subst hc
          simp only [ne_eq, not_true_eq_false, if_false, List.append_nil, List.append_assoc, List.singleton_append]
          rw [List.pairwise_append]
          exact ⟨ha2, hl2, fun p hp q hq => (List.pairwise_append.1 h).2.2 p hp q hq⟩
        · simp only [ne_eq, hc, not_false_eq_true, if_true, List.append_assoc, List.singleton_append]
          rw [List.pairwise_append]
          refine ⟨ha2, ?_, fun p hp q hq => ?_⟩
          · show List.Pairwise _ (c :: x :: l)
            rw [List.pairwise_cons]
            refine ⟨fun q hq => ?_, hl2⟩
            rcases List.mem_cons.1 hq with rfl | hq
            · omega
            · have := hlx q hq; omega
          · have := ha p hp
            rcases List.mem_cons.1 hq with rfl | hq
            · exact this
            · rcases List.mem_cons.1 hq with rfl | hq
              · omega
              · have := hlx q hq; omega
      · simp only [if_true]
        by_cases hc : x = c
        · subst hc; grind
        · grind
    · have e : stepI c (a, false) x = (a ++ [x], false) := by
        have h1 : x ≠ c := by omega
        simp [stepI, hx, h1]
      rw [e]
      obtain ⟨r, h1, h2, h3, h4⟩ := ih (a ++ [x]) (by simpa using h) (fun y hy => by
        rcases List.mem_append.1 hy with hy | hy
        · exact ha y hy
        · simp at hy; subst hy; omega)
      refine ⟨r, h1, h2, fun y => ?_, by grind⟩
      rw [h3]; grind

theorem insL_facts (c : Int) (l : List Int) (h : l.Pairwise (· < ·)) : (insL c l).Pairwise (· < ·) ∧ (∀ x, x ∈ insL c l ↔ x = c ∨ x ∈ l) ∧ (insL c l).length ≤ l.length + 1 := by
  obtain ⟨r, h1, h2, h3, h4⟩ := insS_from c l [] (by simpa using h) (by simp)
  have e : insL c l = r := h1
  rw [e]
  exact ⟨h2, fun x => by rw [h3]; simp, by simpa using h4⟩

theorem idsL_from : ∀ (cs : List (Int × Int)) (o : List Int), o.Pairwise (· < ·) →
    (cs.foldl (fun out c => insL c.1 out) o).Pairwise (· < ·) ∧ (∀ x, x ∈ cs.foldl (fun out c => insL c.1 out) o ↔ x ∈ o ∨ ∃ c ∈ cs, c.1 = x) ∧ (cs.foldl (fun out c => insL c.1 out) o).length ≤ o.length + cs.length := by
  intro cs
  induction cs with
  | nil => intro o h; exact ⟨h, fun x => by simp, by simp⟩
  | cons c cs ih =>
    intro o h
    obtain ⟨i1, i2, i3⟩ := insL_facts c.1 o h
    obtain ⟨j1, j2, j3⟩ := ih (insL c.1 o) i1
    refine ⟨j1, fun x => ?_, by simp only [List.foldl_cons, List.length_cons]; omega⟩
    rw [List.foldl_cons, j2, i2]
    simp only [List.mem_cons, exists_eq_or_imp]
    constructor
    · rintro ((rfl | h) | h)
      · exact .inr (.inl rfl)
      · exact .inl h
      · exact .inr (.inr h)
    · rintro (h | rfl | h)
      · exact .inl (.inr h)
      · exact .inl (.inl rfl)
      · exact .inr h

theorem idsL_rise (cs : List (Int × Int)) : (idsL cs).Pairwise (· < ·) := (idsL_from cs [] List.Pairwise.nil).1
theorem idsL_mem (cs : List (Int × Int)) (x : Int) : x ∈ idsL cs ↔ ∃ c ∈ cs, c.1 = x := by
  have := (idsL_from cs [] List.Pairwise.nil).2.1 x
  simpa [idsL] using this
theorem idsL_len (cs : List (Int × Int)) : (idsL cs).length ≤ cs.length := by
  have := (idsL_from cs [] List.Pairwise.nil).2.2
  simpa [idsL] using this

/-! ### Levels -/
theorem levelL_none (d : Int) (cs : List (Int × Int)) (id : Int) (h : ∀ c ∈ cs, c.1 ≠ id) : levelL d cs id = d := by
  have : cs.find? (fun c => c.1 == id) = none := by
    rw [List.find?_eq_none]; intro x hx; simpa using h x hx
  unfold levelL; rw [this]
theorem levelL_cons (d : Int) (c : Int × Int) (cs : List (Int × Int)) (id : Int) : levelL d (c :: cs) id = if c.1 = id then c.2 else levelL d cs id := by
  unfold levelL
  by_cases h : c.1 = id
  · rw [List.find?_cons_of_pos (by simpa using h), if_pos h]
  · rw [List.find?_cons_of_neg (by simpa using h), if_neg h]
/-- Of what is mapped name by name. -/
theorem levelL_map (d : Int) (f : Int → Int) : ∀ (l : List Int) (id : Int), levelL d (l.map fun i => (i, f i)) id = if id ∈ l then f id else d := by
  intro l id
  induction l with
  | nil => simp [levelL]
  | cons x l ih =>
    rw [List.map_cons, levelL_cons, ih]
    by_cases h : x = id
    · subst h; simp
    · simp [h, Ne.symm h]

theorem IsForm.same {d : Int} {cs cs' F G : List (Int × Int)} (h : IsForm d cs F) (k : IsForm d cs' G) (e : ∀ id, levelL d cs id = levelL d cs' id) : F = G := by
  refine rise_ext F G h.rise k.rise fun x => ?_
  rw [levelL_mem h.rise h.none_, levelL_mem k.rise k.none_, h.level, k.level, e]

/-- The document's form. -/
def formL (d : Int) (cs : List (Int × Int)) : List (Int × Int) := ((idsL cs).filter fun id => levelL d cs id ≠ d).map fun id => (id, levelL d cs id)
theorem formL_is (d : Int) (cs : List (Int × Int)) : IsForm d cs (formL d cs) := by
  refine ⟨?_, ?_, fun id => ?_, ?_⟩
  · unfold formL
    rw [List.pairwise_map]
    exact ((idsL_rise cs).filter _)
  · intro x hx
    unfold formL at hx
    obtain ⟨i, hi, rfl⟩ := List.mem_map.1 hx
    have := (List.mem_filter.1 hi).2
    simpa using this
  · unfold formL
    rw [levelL_map]
    split
    · rfl
    · rename_i h
      rw [List.mem_filter] at h
      by_cases hm : id ∈ idsL cs
      · have : ¬ (levelL d cs id ≠ d) := fun hne => h ⟨hm, by simpa using hne⟩
        exact (Classical.not_not.1 this).symm
      · rw [idsL_mem] at hm
        exact (levelL_none d cs id fun c hc he => hm ⟨c, hc, he⟩).symm
  · unfold formL
    rw [List.length_map]
    exact Nat.le_trans (List.length_filter_le _ _) (idsL_len cs)

/-! ### Orders -/
theorem leqB_iff (d : Int) (cs : List (Int × Int)) (d' : Int) (cs' : List (Int × Int)) : leqB d cs d' cs' = true ↔ d ≤ d' ∧ ∀ id, levelL d cs id ≤ levelL d' cs' id := by
  unfold leqB
  rw [Bool.and_eq_true, Bool.and_eq_true, decide_eq_true_eq, Bool.not_eq_true', Bool.not_eq_true', List.any_eq_false, List.any_eq_false]
  constructor
  · rintro ⟨⟨h1, h2⟩, h3⟩
    refine ⟨h1, fun id => ?_⟩
    by_cases m : ∃ c ∈ cs, c.1 = id
    · obtain ⟨c, hc, rfl⟩ := m
      have := h2 c hc
      simp only [aboveT, decide_eq_true_eq] at this
      omega
    · by_cases m' : ∃ c ∈ cs', c.1 = id
      · obtain ⟨c, hc, rfl⟩ := m'
        have := h3 c hc
        simp only [aboveT, decide_eq_true_eq] at this
        omega
      · rw [levelL_none d cs id fun c hc he => m ⟨c, hc, he⟩, levelL_none d' cs' id fun c hc he => m' ⟨c, hc, he⟩]
        exact h1
  · rintro ⟨h1, h2⟩
    refine ⟨⟨h1, fun c _ => ?_⟩, fun c _ => ?_⟩
    · have := h2 c.1
      simp only [aboveT, decide_eq_true_eq]; omega
    · have := h2 c.1
      simp only [aboveT, decide_eq_true_eq]; omega

def leqD (d : Int) (cs : List (Int × Int)) (d' : Int) (cs' : List (Int × Int)) : Bool := decide (d ≤ d') && (idsL (cs ++ cs')).all fun id => decide (levelL d cs id ≤ levelL d' cs' id)
theorem leqD_eq (d : Int) (cs : List (Int × Int)) (d' : Int) (cs' : List (Int × Int)) : leqD d cs d' cs' = leqB d cs d' cs' := by
  rw [Bool.eq_iff_iff, leqB_iff]
  unfold leqD
  rw [Bool.and_eq_true, decide_eq_true_eq, List.all_eq_true]
  constructor
  · rintro ⟨h1, h2⟩
    refine ⟨h1, fun id => ?_⟩
    by_cases m : id ∈ idsL (cs ++ cs')
    · simpa using h2 id m
    · rw [idsL_mem] at m
      rw [levelL_none d cs id fun c hc he => m ⟨c, List.mem_append.2 (.inl hc), he⟩, levelL_none d' cs' id fun c hc he => m ⟨c, List.mem_append.2 (.inr hc), he⟩]
      exact h1
  · rintro ⟨h1, h2⟩
    exact ⟨h1, fun id _ => by simpa using h2 id⟩

/-! ### Merges, turns -/
theorem levelL_merge (f : Int → Int → Int) (d : Int) (cs : List (Int × Int)) (d' : Int) (cs' : List (Int × Int)) (id : Int) :
    levelL (f d d') (mergeL f d cs d' cs') id = f (levelL d cs id) (levelL d' cs' id) := by
  have key : ∀ l : List (Int × Int), levelL (f d d') (l.map (mergeC f d cs d' cs')) id = if ∃ c ∈ l, c.1 = id then f (levelL d cs id) (levelL d' cs' id) else f d d' := by
    intro l
    induction l with
    | nil => simp [levelL]
    | cons x l ih =>
      rw [List.map_cons, levelL_cons, ih]
      by_cases h : x.1 = id
      · subst h
        rw [if_pos (show (mergeC f d cs d' cs' x).1 = x.1 from rfl), if_pos ⟨x, List.mem_cons_self, rfl⟩]; rfl
      · have e : (mergeC f d cs d' cs' x).1 ≠ id := h
        rw [if_neg e]
        by_cases m : ∃ c ∈ l, c.1 = id
        · have m2 : ∃ c ∈ x :: l, c.1 = id := by obtain ⟨c, hc, he⟩ := m; exact ⟨c, List.mem_cons_of_mem _ hc, he⟩
          rw [if_pos m, if_pos m2]
        · have m2 : ¬ ∃ c ∈ x :: l, c.1 = id := by
            rintro ⟨c, hc, he⟩
            rcases List.mem_cons.1 hc with rfl | hc
            · exact h he
            · exact m ⟨c, hc, he⟩
          rw [if_neg m, if_neg m2]
  unfold mergeL
  rw [key]
  split
  · rfl
  · rename_i h
    rw [levelL_none d cs id fun c hc he => h ⟨c, List.mem_append.2 (.inl hc), he⟩, levelL_none d' cs' id fun c hc he => h ⟨c, List.mem_append.2 (.inr hc), he⟩]

/-- The document's merge: name by name. -/
def mergeD (f : Int → Int → Int) (d : Int) (cs : List (Int × Int)) (d' : Int) (cs' : List (Int × Int)) : List (Int × Int) := (idsL (cs ++ cs')).map fun id => (id, f (levelL d cs id) (levelL d' cs' id))
theorem levelL_mergeD (f : Int → Int → Int) (d : Int) (cs : List (Int × Int)) (d' : Int) (cs' : List (Int × Int)) (id : Int) :
    levelL (f d d') (mergeD f d cs d' cs') id = f (levelL d cs id) (levelL d' cs' id) := by
  unfold mergeD
  rw [levelL_map (f d d') (fun id => f (levelL d cs id) (levelL d' cs' id))]
  split
  · rfl
  · rename_i h
    rw [idsL_mem] at h
    rw [levelL_none d cs id fun c hc he => h ⟨c, List.mem_append.2 (.inl hc), he⟩, levelL_none d' cs' id fun c hc he => h ⟨c, List.mem_append.2 (.inr hc), he⟩]
theorem merge_same {f : Int → Int → Int} {d : Int} {cs : List (Int × Int)} {d' : Int} {cs' F : List (Int × Int)} (h : IsForm (f d d') (mergeL f d cs d' cs') F) : F = formL (f d d') (mergeD f d cs d' cs') :=
  h.same (formL_is _ _) fun id => by rw [levelL_merge, levelL_mergeD]

theorem form_level {d : Int} {cs F : List (Int × Int)} (h : IsForm d cs F) (id : Int) : levelL d F id = levelL d cs id := h.level id

end Go.Proofs.Ytndohmimcbmhdaa

/- label.turn, Raise, Lower. -/
set_option linter.unusedVariables false
set_option linter.unusedSimpArgs false
namespace Go.Proofs.Ytndohmimcbmhdaa
open Go.RowKit Go.Sort

def turnF (was now : Int) (x _y : Int) : Int := if x = was then now else x

set_option maxHeartbeats 400000 in
theorem choose152 (w : World) (x y was now : Int) (p p' : Addr) (h : w.cell? p = some (.int .i64 was)) (h' : w.cell? p' = some (.int .i64 now)) :
    Calls Try.prog 152 #[.int .i64 x, .int .i64 y, .pointer (some p), .pointer (some p')] w fun e w' => e = .returned (.int .i64 (turnF was now x y)) ∧ w = w' := by
  by_cases hx : x = was
  · have HT : Hid (turnF was now x y = now) := if_pos hx
    go_enter Try.func152, Try.ntmps152
    go_wp2_with fail
    go_ret
    exact ⟨by rw [HT.out]; rfl, rfl⟩
  · have HT : Hid (turnF was now x y = x) := if_neg hx
    go_enter Try.func152, Try.ntmps152
    go_wp2_with fail
    go_ret
    exact ⟨by rw [HT.out]; rfl, rfl⟩
theorem eg152 : ∀ args w, (callFunc 152 args).run Try.prog w = .ok (.enter 152 args) w := fun args w => by
  first | kernel_rfl | (simp [callFunc]; done)

set_option maxHeartbeats 1000000 in
set_option maxRecDepth 100000 in
theorem turn107 (w : World) (d was now : Int) (A : Option Addr) (n c : Nat) (cs : List (Int × Int)) (h : CatsAt w w.heap.size A n c cs) (hn : n + n ≤ 8796093022208) :
    Calls Try.prog 107 #[.agg #[.int .i64 d, .slice A n c], .int .i64 was, .int .i64 now] w fun e w' => Made (turnF was now d d) (mergeL (turnF was now) d cs d cs) w e w' := by
  obtain ⟨q1, q2, q3, q4, q5, q6⟩ := four_blk w #[.int .i64 d, .slice A n c] #[.int .i64 was] #[.int .i64 now] #[.int .i64 0, .slice none 0 0] 26 3 3 26
  have H := hid h
  have HB0 := hid q1
  have HP2 := hid q3
  have HP3 := hid q4
  have HP4 := hid q5
  clear h q1 q2 q3 q4 q5 q6
  go_enter Try.func107, Try.ntmps107
  go_wp2_with fail
  generalize (((w.alloc (.cells #[.int .i64 d, .slice A n c] 26)).alloc (.cells #[.int .i64 was] 3)).alloc (.cells #[.int .i64 now] 3)).alloc (.cells #[.int .i64 0, .slice none 0 0] 26) = wb at *
  have HCH : Hid (ChooseOk 152 #[.pointer (some ⟨w.heap.size + 1, 0, none⟩), .pointer (some ⟨w.heap.size + 1 + 1, 0, none⟩)] (turnF was now) wb) := by
    intro W hW x y
    refine (choose152 W x y was now ⟨w.heap.size + 1, 0, none⟩ ⟨w.heap.size + 1 + 1, 0, none⟩ ((Blk.cell (HP2.out.below hW HP2.out.lt) 0).trans rfl) ((Blk.cell (HP3.out.below hW HP3.out.lt) 0).trans rfl)).mono ?_
    rintro e w2 ⟨he, rfl⟩
    exact ⟨he, Below.refl _ _⟩
  refine (merge103 wb d d A A n c n c cs cs 152 _ (turnF was now) ((H.out.below HB0.out).more HB0.out.size) ((H.out.below HB0.out).more HB0.out.size) hn HCH.out eg152).mono ?_
  rintro e w3 ⟨v, F, rfl, hv, hF, hb3⟩
  obtain ⟨A3, n3, c3, rfl, _⟩ := hv.at_
  have k3 := HP4.out.below hb3 HP4.out.lt
  have z0 : w3.cell? ⟨w.heap.size + 1 + 1 + 1, 0, none⟩ = some (.int .i64 0) := (Blk.cell k3 0).trans rfl
  have z1 : w3.cell? ⟨w.heap.size + 1 + 1 + 1, 1, none⟩ = some (.slice none 0 0) := (Blk.cell k3 1).trans rfl
  have z2 := Blk.frozen k3 0
  have z3 := Blk.frozen k3 1
  have HK := hid k3
  have HV := hid hv
  have HF := hid hF
  have hs2 := HP4.out.lt
  have HB3 := hid (HB0.out.trans (hb3.mono HB0.out.size))
  have hsw := HB0.out.size
  clear k3 hv hF hb3
  go_wp2_with fail
  refine bodyPost_ret (label_run (label_put HK.out _ _) rfl _ rfl) rfl ?_
  exact ⟨_, F, rfl, ((HV.out.far (p := ⟨w.heap.size + 1 + 1 + 1, 0, none⟩) hs2 _).far (p := ⟨w.heap.size + 1 + 1 + 1, 1, none⟩) hs2 _).mono hsw, HF.out, (HB3.out.setCell (p := ⟨w.heap.size + 1 + 1 + 1, 0, none⟩) (by show w.heap.size ≤ w.heap.size + 1 + 1 + 1; omega) _).setCell (p := ⟨w.heap.size + 1 + 1 + 1, 1, none⟩) (by show w.heap.size ≤ w.heap.size + 1 + 1 + 1; omega) _⟩

set_option maxHeartbeats 1000000 in
set_option maxRecDepth 100000 in
theorem raise46 (w : World) (d : Int) (A : Option Addr) (n c : Nat) (cs : List (Int × Int)) (h : CatsAt w w.heap.size A n c cs) (hn : n + n ≤ 8796093022208) :
    Calls Try.prog 46 #[.agg #[.int .i64 d, .slice A n c]] w fun e w' => Made (turnF 0 5 d d) (mergeL (turnF 0 5) d cs d cs) w e w' := by
  have H := hid h
  have HB0 := hid (((Below.refl _ w).alloc (Nat.le_refl _) (.cells #[.int .i64 d, .slice A n c] 26)).alloc (by simp) (.cells #[.int .i64 0, .slice none 0 0] 26))
  have HP4 : Hid (Blk ((w.alloc (.cells #[.int .i64 d, .slice A n c] 26)).alloc (.cells #[.int .i64 0, .slice none 0 0] 26)) (w.heap.size + 1) 26 #[.int .i64 0, .slice none 0 0]) := by
    have := Blk.new (w.alloc (.cells #[.int .i64 d, .slice A n c] 26)) 26 #[.int .i64 0, .slice none 0 0]
    have e : (w.alloc (.cells #[.int .i64 d, .slice A n c] 26)).heap.size = w.heap.size + 1 := by simp
    rwa [e] at this
  clear h
  go_enter Try.func46, Try.ntmps46
  go_wp2_with fail
  generalize (w.alloc (.cells #[.int .i64 d, .slice A n c] 26)).alloc (.cells #[.int .i64 0, .slice none 0 0] 26) = wb at *
  refine (turn107 wb d 0 5 A n c cs ((H.out.below HB0.out).more HB0.out.size) hn).mono ?_
  rintro e w3 ⟨v, F, rfl, hv, hF, hb3⟩
  obtain ⟨A3, n3, c3, rfl, _⟩ := hv.at_
  have k3 := HP4.out.below hb3 HP4.out.lt
  have z0 : w3.cell? ⟨w.heap.size + 1, 0, none⟩ = some (.int .i64 0) := (Blk.cell k3 0).trans rfl
  have z1 : w3.cell? ⟨w.heap.size + 1, 1, none⟩ = some (.slice none 0 0) := (Blk.cell k3 1).trans rfl
  have z2 := Blk.frozen k3 0
  have z3 := Blk.frozen k3 1
  have HK := hid k3
  have HV := hid hv
  have HF := hid hF
  have hs2 := HP4.out.lt
  have HB3 := hid (HB0.out.trans (hb3.mono HB0.out.size))
  have hsw := HB0.out.size
  clear k3 hv hF hb3
  go_wp2_with fail
  refine bodyPost_ret (label_run (label_put HK.out _ _) rfl _ rfl) rfl ?_
  exact ⟨_, F, rfl, ((HV.out.far (p := ⟨w.heap.size + 1, 0, none⟩) hs2 _).far (p := ⟨w.heap.size + 1, 1, none⟩) hs2 _).mono hsw, HF.out, (HB3.out.setCell (p := ⟨w.heap.size + 1, 0, none⟩) (by show w.heap.size ≤ w.heap.size + 1; omega) _).setCell (p := ⟨w.heap.size + 1, 1, none⟩) (by show w.heap.size ≤ w.heap.size + 1; omega) _⟩

set_option maxHeartbeats 1000000 in
set_option maxRecDepth 100000 in
theorem lower48 (w : World) (d : Int) (A : Option Addr) (n c : Nat) (cs : List (Int × Int)) (h : CatsAt w w.heap.size A n c cs) (hn : n + n ≤ 8796093022208) :
    Calls Try.prog 48 #[.agg #[.int .i64 d, .slice A n c]] w fun e w' => Made (turnF 5 0 d d) (mergeL (turnF 5 0) d cs d cs) w e w' := by
  have H := hid h
  have HB0 := hid (((Below.refl _ w).alloc (Nat.le_refl _) (.cells #[.int .i64 d, .slice A n c] 26)).alloc (by simp) (.cells #[.int .i64 0, .slice none 0 0] 26))
  have HP4 : Hid (Blk ((w.alloc (.cells #[.int .i64 d, .slice A n c] 26)).alloc (.cells #[.int .i64 0, .slice none 0 0] 26)) (w.heap.size + 1) 26 #[.int .i64 0, .slice none 0 0]) := by
    have := Blk.new (w.alloc (.cells #[.int .i64 d, .slice A n c] 26)) 26 #[.int .i64 0, .slice none 0 0]
    have e : (w.alloc (.cells #[.int .i64 d, .slice A n c] 26)).heap.size = w.heap.size + 1 := by simp
    rwa [e] at this
  clear h
  go_enter Try.func48, Try.ntmps48
  go_wp2_with fail
  generalize (w.alloc (.cells #[.int .i64 d, .slice A n c] 26)).alloc (.cells #[.int .i64 0, .slice none 0 0] 26) = wb at *
  refine (turn107 wb d 5 0 A n c cs ((H.out.below HB0.out).more HB0.out.size) hn).mono ?_
  rintro e w3 ⟨v, F, rfl, hv, hF, hb3⟩
  obtain ⟨A3, n3, c3, rfl, _⟩ := hv.at_
  have k3 := HP4.out.below hb3 HP4.out.lt
  have z0 : w3.cell? ⟨w.heap.size + 1, 0, none⟩ = some (.int .i64 0) := (Blk.cell k3 0).trans rfl
  have z1 : w3.cell? ⟨w.heap.size + 1, 1, none⟩ = some (.slice none 0 0) := (Blk.cell k3 1).trans rfl
  have z2 := Blk.frozen k3 0
  have z3 := Blk.frozen k3 1
  have HK := hid k3
  have HV := hid hv
  have HF := hid hF
  have hs2 := HP4.out.lt
  have HB3 := hid (HB0.out.trans (hb3.mono HB0.out.size))
  have hsw := HB0.out.size
  clear k3 hv hF hb3
  go_wp2_with fail
  refine bodyPost_ret (label_run (label_put HK.out _ _) rfl _ rfl) rfl ?_
  exact ⟨_, F, rfl, ((HV.out.far (p := ⟨w.heap.size + 1, 0, none⟩) hs2 _).far (p := ⟨w.heap.size + 1, 1, none⟩) hs2 _).mono hsw, HF.out, (HB3.out.setCell (p := ⟨w.heap.size + 1, 0, none⟩) (by show w.heap.size ≤ w.heap.size + 1; omega) _).setCell (p := ⟨w.heap.size + 1, 1, none⟩) (by show w.heap.size ≤ w.heap.size + 1; omega) _⟩
end Go.Proofs.Ytndohmimcbmhdaa
