/- label.Set. -/
import Derived.Test.YtndohmimcbmhdaaMz11
set_option linter.unusedVariables false
set_option linter.unusedSimpArgs false
namespace Go.Proofs.Ytndohmimcbmhdaa
open Go.RowKit Go.Sort

set_option maxHeartbeats 2000000 in
set_option maxRecDepth 100000 in
theorem set49 (w : World) (d id lv : Int) (A : Option Addr) (n c : Nat) (cs : List (Int × Int)) (h : CatsAt w w.heap.size A n c cs) (hn : n + 1 ≤ 8796093022208) :
    Calls Try.prog 49 #[.agg #[.int .i64 d, .slice A n c], .int .u64 id, .int .i64 lv] w fun e w' => Made d ((id, lv) :: cs) w e w' := by
  have mixed : Try.prog.follows .mixedOrders = true := by kernel_rfl
  obtain ⟨i0, hi0, hz0, hz1, hz2⟩ := info_parts cat_info
  obtain ⟨q1, q2, q3⟩ := two_blk w #[.int .i64 d, .slice A n c] #[.int .i64 0, .slice none 0 0] 26 26
  have HB := hid q1
  have HP1 := hid q2
  have HP2 := hid q3
  have HC := hid ((h.below q1).more q1.size)
  have HLN := hid h.len
  clear h q1 q2 q3
  go_enter Try.func49, Try.ntmps49
  go_wp2_with fail
  generalize (w.alloc (.cells #[.int .i64 d, .slice A n c] 26)).alloc (.cells #[.int .i64 0, .slice none 0 0] 26) = wa at *
  have HF : Hid (∀ W, Since wa W → W.cell? ⟨w.heap.size, 0, none⟩ = some (.int .i64 d) ∧ W.cell? ⟨w.heap.size, 1, none⟩ = some (.slice A n c)) := by
    intro W hW
    have r := hW.blk HP1.out (fun h => h)
    exact ⟨(Blk.cell r 0).trans rfl, (Blk.cell r 1).trans rfl⟩
  have hS : Since wa wa := But.refl _ _
  obtain ⟨f1, f2⟩ := HF.out wa hS
  have hR : Reads (wa.drew.alloc (.cells #[.int .u64 id, .int .i64 lv] 32)) wa.heap.size 2 A n (flat cs) := ((HC.out.reads).drew).alloc (Nat.le_refl _) _
  have HR := hid hR
  have HO := hid (World.ownsRow_lit (base := wa.heap.size) (e := 32) (size := 2) wa.drew #[.int .u64 id, .int .i64 lv] 1 (Nat.le_refl _) (by unfold maxLen; omega) rfl)
  clear hR
  go_region_held3 (fun w' => w'.cell? ⟨w.heap.size, 0, none⟩ = some (.int .i64 d) ∧ w'.cell? ⟨w.heap.size, 1, none⟩ = some (.slice A n c))
    (first | go_keep | exact HF.out _ (by assumption))
    (first
      | (refine step_append_any _ rfl (.tmp 12) (.tmp 14) _ rfl wa.heap.size 32 i0 _ 2 16 Try.underlying23 hi0 hz0 hz1 hz2 rfl (by omega) _ 1 [.int .u64 id, .int .i64 lv] rfl HO.out wa.heap.size A n c (flat cs) rfl HR.out (flat_one cs) (by unfold maxLen; omega) (by omega) (by show wa.heap.size ≤ (wa.alloc _).heap.size; simp) ?_; intro v1 w1 hown hg hat; have hs1 : Since wa w1 := own_since ((But.refl _ wa).drew.alloc _) hg (fun g e => (World.ownsRow.lt HO.out g e).1); have hv1 : OwnCats w1 wa.heap.size v1 ((id, lv) :: cs) := OwnCats.of_own (by rw [List.length_cons, HLN.out, Nat.add_comm]; exact hown); obtain ⟨A1, n1, c1, rfl, hT1⟩ := hv1.at_; have HT1 := hid hT1; clear hv1 hown hg hat hT1)
      | (go_at_call 34; refine (make34 w1 d A1 n1 c1 ((id, lv) :: cs) HT1.out (by have q1 := HT1.out.len; have q2 := HLN.out; rw [List.length_cons] at q1; omega)).mono ?_; rintro e w2 ⟨v, F, rfl, hv, hF, hb⟩; obtain ⟨A2, n2, c2, rfl, _⟩ := hv.at_; have hs2 : Since wa w2 := since_then hs1 hb; have HK := hid (hs2.blk HP2.out (fun h => h)); obtain ⟨⟨z0, z1⟩, z2, z3⟩ := label_zero HK.out; have HV := hid hv; have HFF := hid hF; clear hv hF hb))
  go_wp2_with fail
  refine bodyPost_ret (label_run (label_put HK.out _ _) rfl _ rfl) rfl ?_
  exact made_end HV.out HFF.out (by omega) (Nat.lt_of_lt_of_le HP2.out.lt hs1.size) (HB.out.trans (since_below hs2 HB.out.size))
end Go.Proofs.Ytndohmimcbmhdaa

/- Slices of numbers in memory. -/
set_option linter.unusedVariables false
set_option linter.unusedSimpArgs false
namespace Go.Proofs.Ytndohmimcbmhdaa
open Go.RowKit Go.Sort

def nums (l : List Int) : List Value := l.map (Value.int .u64)
@[simp] theorem nums_length (l : List Int) : (nums l).length = l.length := by simp [nums]
theorem nums_append (a b : List Int) : nums (a ++ b) = nums a ++ nums b := by simp [nums]
theorem nums_one (l : List Int) : ∀ v ∈ nums l, v.oneCell' = true := by
  intro v hv
  simp only [nums, List.mem_map] at hv
  obtain ⟨x, _, rfl⟩ := hv
  rfl
theorem u64_info : (Try.prog.info? 24).map (fun i => (i.zero, i.size, i.bytes)) = some (some (.int .u64 0), 1, 8) := by kernel_rfl

/-- A slice value that reads as numbers, below block B. -/
structure NumsAt (w : World) (B : Nat) (A : Option Addr) (n c : Nat) (l : List Int) : Prop where
  len : l.length = n
  cap : n ≤ c
  max : c ≤ maxLen
  reads : Reads w B 1 A n (nums l)

section
variable {w w' : World} {B B' : Nat} {A : Option Addr} {n c : Nat} {l : List Int}
theorem NumsAt.below (h : NumsAt w B A n c l) (hb : Below B w w') : NumsAt w' B A n c l := ⟨h.len, h.cap, h.max, h.reads.below hb⟩
theorem NumsAt.more (h : NumsAt w B A n c l) (hB : B ≤ B') : NumsAt w B' A n c l := ⟨h.len, h.cap, h.max, h.reads.more hB⟩
theorem NumsAt.at_ (h : NumsAt w B A n c l) {k : Nat} (hk : k < n) : ∃ ad x, A = some ad ∧ ad.block < B ∧ l[k]? = some x ∧ w.cell? (ad.add k) = some (.int .u64 x) := by
  obtain ⟨ad, u, e, hb, hx, hc⟩ := h.reads.at_ hk
  have hl : k < l.length := by have := h.len; omega
  refine ⟨ad, l[k], e, hb, List.getElem?_eq_getElem hl, ?_⟩
  rw [hc]
  have : (nums l)[k]? = some (.int .u64 l[k]) := by simp [nums, List.getElem?_eq_getElem hl]
  rw [this] at hx
  exact hx.symm
theorem NumsAt.of_own {base : Nat} {v : Value} (h : w.ownsRow base 24 1 v l.length (nums l)) : ∃ A n c, v = .slice A n c ∧ NumsAt w w.heap.size A n c l := by
  rcases h.2 with ⟨rfl, h0⟩ | ⟨g, cap, cur, rfl, hb, hh, hnc, hcm, _⟩
  · exact ⟨none, 0, 0, rfl, h0, Nat.le_refl _, by simp [maxLen], by
      have : l = [] := List.eq_nil_of_length_eq_zero h0
      subst this; exact Reads.none_⟩
  · exact ⟨_, l.length, cap, rfl, rfl, hnc, hcm, Reads.of_own h⟩
end

theorem num_new (W : World) (x : Value) : Reads (W.alloc (.cells #[x] 24)) (W.heap.size + 1) 1 (some ⟨W.heap.size, 0, none⟩) 1 [x] := by
  refine ⟨rfl, fun _ => ⟨_, rfl, Nat.lt_succ_self _, fun j u hu => ?_⟩⟩
  have hB := Blk.new W 24 #[x]
  match j, hu with
  | 0, hu => simp at hu; subst hu; exact (Blk.cell hB 0).trans rfl

/-! ### One step of the rising list -/
theorem insS_snoc (c : Int) (l : List Int) (k : Nat) (x : Int) (h : l[k]? = some x) : insS c (l.take (k + 1)) = stepI c (insS c (l.take k)) x := by
  unfold insS
  rw [List.take_add_one, h]
  simp
theorem insS_len (c : Int) : ∀ (l : List Int), (insS c l).1.length ≤ l.length + (insS c l).2.toNat := by
  have key : ∀ (l : List Int) (s : List Int × Bool) (m : Nat), s.1.length ≤ m + s.2.toNat → (l.foldl (stepI c) s).1.length ≤ m + l.length + (l.foldl (stepI c) s).2.toNat := by
    intro l
    induction l with
    | nil => intro s m h; exact h
    | cons x l ih =>
      intro s m h
      rw [List.foldl_cons]
      have := ih (stepI c s x) (m + 1) (by
        obtain ⟨a, b⟩ := s
        cases b <;> by_cases h1 : x ≥ c <;> by_cases h2 : x = c <;> simp [stepI, h1, h2, Bool.toNat] at h ⊢ <;> omega)
      simp only [List.length_cons]
      omega
  intro l
  have := key l ([], false) 0 (Nat.le_refl _)
  rw [Nat.zero_add] at this
  exact this
theorem idsL_snoc (cs : List (Int × Int)) (k : Nat) (x : Int × Int) (h : cs[k]? = some x) (pre : List (Int × Int)) : idsL (pre ++ cs.take (k + 1)) = insL x.1 (idsL (pre ++ cs.take k)) := by
  unfold idsL
  rw [List.take_add_one, h, ← List.append_assoc, List.foldl_append]
  simp

/-! ### The document's Level, pick -/
set_option maxHeartbeats 1000000 in
theorem level38 (w : World) (d : Int) (A : Option Addr) (n c : Nat) (cs : List (Int × Int)) (id : Int) (h : CatsAt w w.heap.size A n c cs) :
    Calls Try.prog 38 #[.agg #[.int .i64 d, .slice A n c], .int .u64 id] w fun e w' => LevelSays d cs id w e w' := by
  have hm : n ≤ 9223372036854775807 := by have := h.cap; have := h.max; unfold maxLen at this; omega
  have H := hid h
  clear h
  go_enter Try.func38, Try.ntmps38
  go_wp2_with fail
  go_loopw [10] (fun vi wr => ∃ k : Nat, k ≤ n ∧ vi = .int .i64 k ∧ Hid (Grew w wr ∧ Blk wr w.heap.size 26 #[.int .i64 d, .slice A n c]) ∧ Hid (∀ (j : Nat) (y : Int × Int), j < k → cs[j]? = some y → ¬ y.1 = id)) (fun vi _ => n - (intOf vi).toNat)
  case atStart => exact ⟨0, Nat.zero_le _, rfl, ⟨(Grew.refl _).alloc _, Blk.new _ _ _⟩, fun j y hj => absurd hj (Nat.not_lt_zero _)⟩
  case round =>
    obtain ⟨k, hk, rfl, BW, AL⟩ := hrel
    have hbw : Below w.heap.size w wr := BW.out.1.below
    have hB : Blk wr w.heap.size 26 #[.int .i64 d, .slice A n c] := BW.out.2
    have b0 : wr.cell? ⟨w.heap.size, 0, none⟩ = some (.int .i64 d) := (Blk.cell hB 0).trans rfl
    by_cases hlt : k < n
    · have hltz : (k : Int) < (n : Int) := by omega
      obtain ⟨b, off, x, rfl, hbB, hx, c0, c1⟩ := (H.out.below hbw).at_ hlt
      have HX := hid hx
      clear hx hB
      by_cases hq : x.1 = id
      · have HL : Hid (levelL d cs id = x.2) := levelL_hit HX.out hq AL.out
        go_wp2_with fail
        go_ret
        exact ⟨by rw [HL.out]; rfl, BW.out.1.alloc _⟩
      · go_wp2_with fail
        go_roundw
        case measure => simp [intOf] <;> omega
        case rel =>
          refine ⟨k + 1, by omega, by go_num, ⟨BW.out.1.alloc _, BW.out.2.alloc _⟩, (show Hid _ from fun j y hj hy => ?_)⟩
          by_cases e : j = k
          · subst e
            have := HX.out
            rw [hy] at this; cases this
            exact hq
          · exact AL.out j y (by omega) hy
    · have hltz : ¬ (k : Int) < (n : Int) := by omega
      have HL : Hid (levelL d cs id = d) := levelL_miss fun j y hy => AL.out j y (by have := (List.getElem?_eq_some_iff.1 hy).1; have := H.out.len; omega) hy
      go_wp2_with fail
      go_ret
      exact ⟨by rw [HL.out]; rfl, BW.out.1⟩
theorem level38_b (w : World) (d : Int) (A : Option Addr) (n c : Nat) (cs : List (Int × Int)) (id : Int) (h : CatsAt w w.heap.size A n c cs) :
    Calls Try.prog 38 #[.agg #[.int .i64 d, .slice A n c], .int .u64 id] w fun e w' => e = .returned (.int .i64 (levelL d cs id)) ∧ Below w.heap.size w w' :=
  (level38 w d A n c cs id h).mono fun e w' ⟨he, q, os, hw⟩ => ⟨he, by subst hw; exact grown_below q os⟩

def pickF (g : Bool) (x y : Int) : Int := if g then max x y else min x y
set_option maxHeartbeats 400000 in
theorem pick106 (w : World) (x y : Int) (g : Bool) : Calls Try.prog 106 #[.int .i64 x, .int .i64 y, .bool g] w fun e w' => e = .returned (.int .i64 (pickF g x y)) ∧ w = w' := by
  by_cases h : y < x
  · have hd : decide (y < x) = true := decide_eq_true h
    cases g with
    | true =>
      have HP : Hid (pickF true x y = x) := by unfold pickF; simp only [if_true]; show max x y = x; omega
      go_enter Try.func106, Try.ntmps106
      go_wp2_with fail
      go_ret
      exact ⟨by rw [HP.out]; rfl, rfl⟩
    | false =>
      have HP : Hid (pickF false x y = y) := by unfold pickF; simp only [Bool.false_eq_true, if_false]; show min x y = y; omega
      go_enter Try.func106, Try.ntmps106
      go_wp2_with fail
      go_ret
      exact ⟨by rw [HP.out]; rfl, rfl⟩
  · have hd : decide (y < x) = false := decide_eq_false h
    cases g with
    | true =>
      have HP : Hid (pickF true x y = y) := by unfold pickF; simp only [if_true]; show max x y = y; omega
      go_enter Try.func106, Try.ntmps106
      go_wp2_with fail
      go_ret
      exact ⟨by rw [HP.out]; rfl, rfl⟩
    | false =>
      have HP : Hid (pickF false x y = x) := by unfold pickF; simp only [Bool.false_eq_true, if_false]; show min x y = x; omega
      go_enter Try.func106, Try.ntmps106
      go_wp2_with fail
      go_ret
      exact ⟨by rw [HP.out]; rfl, rfl⟩
end Go.Proofs.Ytndohmimcbmhdaa

/- The document's IDs. -/
set_option linter.unusedVariables false
set_option linter.unusedSimpArgs false
namespace Go.Proofs.Ytndohmimcbmhdaa
open Go.RowKit Go.Sort

def IdsOut (w : World) (l : List Int) (e : Ending) (w' : World) : Prop := ∃ v, e = .returned v ∧ w'.ownsRow w.heap.size 24 1 v l.length (nums l) ∧ Below w.heap.size w w'
def OwnU (w : World) (base : Nat) (v : Value) (l : List Int) : Prop := w.ownsRow base 24 1 v l.length (nums l)
theorem OwnU.of {w : World} {base : Nat} {v : Value} {l : List Int} (h : w.ownsRow base 24 1 v l.length (nums l)) : OwnU w base v l := h

/-- Behind a push onto a row of the call's own: the row, what lay there, and a block that isn't the row's. -/
theorem push_after {w0 wj w1 : World} {B B0 g : Nat} {tg : TypeId} {cc : Array Value} {o : Obj} {v v1 : Value} {l : List Int} {x : Int} (hown : OwnU wj B v l) (hb : Below B0 w0 wj) (hk : Blk wj g tg cc) (hgB : g < B) (hB : B0 ≤ B) (hBj : B ≤ wj.heap.size)
    (ho : w1.ownsRow B 24 1 v1 (l.length + 1) (nums l ++ [.int .u64 x])) (hgr : (wj.alloc o).grownBy w1 v.ownBlock) : OwnU w1 B v1 (l ++ [x]) ∧ Below B0 w0 w1 ∧ Blk w1 g tg cc ∧ B ≤ w1.heap.size := by
  have hlt := World.ownsRow.lt hown
  refine ⟨OwnU.of (by rw [List.length_append, nums_append]; exact ho), (hb.alloc (by omega) o).grown hgr (by simp; omega) (fun k e => by have := (hlt k e).1; omega), (hk.alloc o).grown hgr (fun e => by have := (hlt g e.symm).1; omega), Nat.le_trans hBj (Nat.le_trans (by simp) hgr.size)⟩
theorem ownU_new (w : World) (o : Obj) {B : Nat} (hB : B ≤ w.heap.size + 1) : OwnU ((w.alloc o).alloc (.cells #[] 24)) B (.slice (some ⟨w.heap.size + 1, 0, none⟩) 0 0) [] := by
  have h := World.ownsRow_made (base := B) (e := 24) (size := 1) (w.alloc o) #[] 0 (by simpa using hB) (by simp [maxLen]) rfl
  have e : (w.alloc o).heap.size = w.heap.size + 1 := by simp
  rw [e] at h
  exact h
theorem ownU_below {w w' : World} {B : Nat} {v : Value} {l : List Int} (h : OwnU w B v l) (hb : Below w.heap.size w w') : OwnU w' B v l := World.ownsRow.kept (row := none) h (only_of_below hb none) (by cases v.ownBlock <;> simp)

theorem ownU_base {w : World} {B B' : Nat} {v : Value} {l : List Int} (h : OwnU w B v l) (hB : B' ≤ B) : OwnU w B' v l := by
  refine ⟨h.1, ?_⟩
  rcases h.2 with h | ⟨g, cap, cur, e, hb, r⟩
  · exact .inl h
  · exact .inr ⟨g, cap, cur, e, by omega, r⟩

set_option maxHeartbeats 4000000 in
set_option maxRecDepth 100000 in
theorem ids100 (w : World) (d1 d2 : Int) (A1 A2 : Option Addr) (n1 c1 n2 c2 : Nat) (cs1 cs2 : List (Int × Int)) (h1 : CatsAt w w.heap.size A1 n1 c1 cs1) (h2 : CatsAt w w.heap.size A2 n2 c2 cs2) (hn : n1 + n2 ≤ 17592186044416) :
    Calls Try.prog 100 #[.agg #[.int .i64 d1, .slice A1 n1 c1, .int .i64 d2, .slice A2 n2 c2]] w fun e w' => IdsOut w (idsL (cs1 ++ cs2)) e w' := by
  obtain ⟨i0, hi0, hz0, hz1, hz2⟩ := info_parts u64_info
  have H1 := hid h1
  have H2 := hid h2
  have L1 := hid h1.len
  have L2 := hid h2.len
  clear h1 h2
  go_enter Try.func100, Try.ntmps100
  go_wp2_with fail
  go_loopw [3, 14] (fun vo vi wr => ∃ i : Nat, i ≤ 2 ∧ vi = .int .i64 i ∧ Hid (Below w.heap.size w wr) ∧ Hid (∃ pre, (i = 0 ∧ pre = [] ∨ i = 1 ∧ pre = cs1 ∨ i = 2 ∧ pre = cs1 ++ cs2) ∧ OwnU wr w.heap.size vo (idsL pre))) (fun _ vi _ => 2 - (intOf vi).toNat)
  case atStart => exact ⟨0, by omega, rfl, ((Below.refl _ w).alloc (Nat.le_refl _) _).alloc (by simp) _, [], .inl ⟨rfl, rfl⟩, ownU_new w _ (by omega)⟩
  case round =>
    obtain ⟨i, hi, rfl, BW, OW⟩ := hrel
    by_cases hlt : i < 2
    · have hltz : (i : Int) < 2 := by omega
      obtain ⟨pre, hp, ho⟩ := OW.out
      obtain ⟨d, A, n, c, cs, hix, hC, hpre⟩ : ∃ d A n c cs, (∀ W, (Instr.index 111 (.agg #[.int .i64 d1, .slice A1 n1 c1, .int .i64 d2, .slice A2 n2 c2]) (.int .i64 (i : Int))).run Try.prog W = .ok (.agg #[.int .i64 d, .slice A n c]) W) ∧ Hid (CatsAt w w.heap.size A n c cs) ∧ Hid (pre.length + n ≤ n1 + n2 ∧ (i + 1 = 1 ∧ pre ++ cs = cs1 ∨ i + 1 = 2 ∧ pre ++ cs = cs1 ++ cs2)) := by
        have hi2 : i = 0 ∨ i = 1 := by omega
        rcases hi2 with rfl | rfl
        · obtain rfl : pre = [] := by rcases hp with ⟨_, h⟩ | ⟨h, _⟩ | ⟨h, _⟩ <;> first | exact h | omega
          exact ⟨d1, A1, n1, c1, cs1, fun W => by kernel_rfl, H1.out, ⟨by simp, .inl ⟨rfl, rfl⟩⟩⟩
        · obtain rfl : pre = cs1 := by rcases hp with ⟨h, _⟩ | ⟨_, h⟩ | ⟨h, _⟩ <;> first | exact h | omega
          exact ⟨d2, A2, n2, c2, cs2, fun W => by kernel_rfl, H2.out, ⟨by rw [L1.out]; exact Nat.le_refl _, .inr ⟨rfl, rfl⟩⟩⟩
      have HO := hid ho
      have hnb : n ≤ 17592186044416 := by have := hpre.out.1; omega
      clear hp ho OW
      go_wp2_with fail
      obtain ⟨wo, rfl⟩ : ∃ wo : World, wo = wr := ⟨_, rfl⟩
      go_loopw [3, 20] (fun vo vk wk => ∃ k : Nat, k ≤ n ∧ vk = .int .i64 k ∧ Hid (Below w.heap.size w wk) ∧ Hid (OwnU wk w.heap.size vo (idsL (pre ++ cs.take k)))) (fun _ vk _ => n - (intOf vk).toNat)
      case atStart =>
        exact ⟨0, Nat.zero_le _, rfl, BW.out.alloc BW.out.size _, by rw [List.take_zero, List.append_nil]; exact World.ownsRow.alloc HO.out _⟩
      case round =>
        obtain ⟨k, hk, rfl, BK, OK⟩ := hrel
        obtain ⟨wv, rfl⟩ : ∃ wv : World, wv = wr := ⟨_, rfl⟩
        by_cases hkn : k < n
        · have hkz : (k : Int) < (n : Int) := by omega
          obtain ⟨b, off, x, rfl, hbB, hx, c0, c1'⟩ := (hC.out.below BK.out).at_ hkn
          have HSN := hid (idsL_snoc cs k x hx pre)
          have hil := Nat.le_trans (idsL_len (pre ++ cs.take k)) (by rw [List.length_append, List.length_take]; exact Nat.le_refl _)
          generalize idsL (pre ++ cs.take k) = ids at *
          obtain ⟨Ao, m, co, rfl, hN⟩ := NumsAt.of_own OK.out
          have HN := hid hN
          have hml := hN.len
          have hm2 : m + 1 ≤ n1 + n2 := by have := hpre.out.1; omega
          have hm3 : m ≤ 9223372036854775807 := by omega
          have HML := hid hml
          clear hx hN hml hil
          go_wp2_with fail
          go_loopw [8, 9, 27] (fun v8 v9 vj wj => ∃ (j : Nat) (bd : Bool) (nx : List Int), j ≤ m ∧ vj = .int .i64 j ∧ v9 = .bool bd ∧ Hid (insS x.1 (ids.take j) = (nx, bd)) ∧ Hid (Below wv.heap.size wv wj) ∧ Hid (wv.heap.size + 1 ≤ wj.heap.size) ∧ Hid (Blk wj wv.heap.size 32 #[.int .u64 x.1, .int .i64 x.2]) ∧ Hid (OwnU wj (wv.heap.size + 1) v8 nx)) (fun _ _ vj _ => m - (intOf vj).toNat)
          case atStart =>
            refine ⟨0, false, [], Nat.zero_le _, rfl, rfl, rfl, ((Below.refl _ wv).alloc (Nat.le_refl _) _).alloc (by simp) _, (show Hid _ from by show _ ≤ _; simp), (Blk.new wv 32 _).alloc _, ownU_new wv _ (Nat.le_refl _)⟩
          case round =>
            obtain ⟨j, bd, nx, hj, rfl, rfl, IS, BJ, HBJ, XJ, OJ⟩ := hrel
            obtain ⟨wj, rfl⟩ : ∃ wj : World, wj = wr := ⟨_, rfl⟩
            have f0 : wj.cell? ⟨wv.heap.size, 0, none⟩ = some (.int .u64 x.1) := (Blk.cell XJ.out 0).trans rfl
            have hlen := insS_len x.1 (ids.take j)
            rw [IS.out, List.length_take] at hlen
            have hlen2 : nx.length ≤ j + bd.toNat := by have := Nat.min_le_left j ids.length; simp only at hlen; omega
            clear hlen
            by_cases hjm : j < m
            · have hjz : (j : Int) < (m : Int) := by omega
              obtain ⟨ad, y, rfl, had, hy, cy⟩ := (HN.out.below BJ.out).at_ hjm
              have HIS := hid (insS_snoc x.1 ids j y hy)
              clear hy
              cases bd with
              | true =>
                have hlen3 : nx.length ≤ j + 1 := hlen2
                by_cases hyc : y = x.1
                · subst hyc
                  go_wp2_with fail
                  go_roundw
                  case measure => simp [intOf] <;> omega
                  case rel => exact ⟨j + 1, true, nx, by omega, by go_num, rfl, HIS.out.trans (by rw [IS.out]; simp [stepI]), BJ.out, HBJ.out, XJ.out, OJ.out⟩
                · go_wp2_with (at_builtin; refine wpList_append_any _ rfl (.tmp 48) (.tmp 50) _ rfl (wv.heap.size + 1) 24 i0 _ 1 8 Try.underlying88 hi0 hz0 hz1 hz2 rfl (by omega) _ _ _ rfl (World.ownsRow.alloc OJ.out _) _ _ 1 1 [.int .u64 y] rfl (num_new _ _) (by simp [Value.oneCell']) (by (try simp only [List.length_append, List.length_cons, List.length_nil]); unfold maxLen; omega) (by (try simp only [List.length_append, List.length_cons, List.length_nil]); omega) (Nat.le_trans HBJ.out (by simp)) ?_; intro v1 w1 hown hg hat; obtain ⟨p1, p2, p3, p4⟩ := push_after OJ.out BJ.out XJ.out (Nat.lt_succ_self _) (Nat.le_succ _) HBJ.out hown hg; have f1 : w1.cell? ⟨wv.heap.size, 0, none⟩ = some (.int .u64 x.1) := (Blk.cell p3 0).trans rfl; have OJ := hid p1; have BJ := hid p2; have XJ := hid p3; have HBJ := hid p4; clear p1 p2 p3 p4 hown hg hat)
                  go_roundw
                  case measure => simp [intOf] <;> omega
                  case rel => exact ⟨j + 1, true, nx ++ [y], by omega, by go_num, rfl, HIS.out.trans (by rw [IS.out]; simp [stepI, hyc]), BJ.out, HBJ.out, XJ.out, OJ.out⟩
              | false =>
                have hlen3 : nx.length ≤ j := hlen2
                by_cases hge : y ≥ x.1
                · have hf0 : wj.drew.cell? ⟨wv.heap.size, 0, none⟩ = some (.int .u64 x.1) := f0
                  by_cases hyc : y = x.1
                  · subst hyc
                    have hge2 : decide (x.1 ≤ x.1) = true := by simp
                    go_wp2_with (at_builtin; refine wpList_append_any _ rfl (.tmp 39) (.tmp 42) _ rfl (wv.heap.size + 1) 24 i0 _ 1 8 Try.underlying88 hi0 hz0 hz1 hz2 rfl (by omega) _ _ _ rfl (World.ownsRow.alloc OJ.out _) _ _ 1 1 [.int .u64 x.1] rfl (num_new _ _) (by simp [Value.oneCell']) (by (try simp only [List.length_append, List.length_cons, List.length_nil]); unfold maxLen; omega) (by (try simp only [List.length_append, List.length_cons, List.length_nil]); omega) (Nat.le_trans HBJ.out (by simp)) ?_; intro v1 w1 hown hg hat; obtain ⟨p1, p2, p3, p4⟩ := push_after OJ.out BJ.out XJ.out (Nat.lt_succ_self _) (Nat.le_succ _) HBJ.out hown hg; have f1 : w1.cell? ⟨wv.heap.size, 0, none⟩ = some (.int .u64 x.1) := (Blk.cell p3 0).trans rfl; have OJ := hid p1; have BJ := hid p2; have XJ := hid p3; have HBJ := hid p4; clear p1 p2 p3 p4 hown hg hat)
                    go_roundw
                    case measure => simp [intOf] <;> omega
                    case rel => exact ⟨j + 1, true, nx ++ [x.1], by omega, by go_num, rfl, HIS.out.trans (by rw [IS.out]; simp [stepI]), BJ.out, HBJ.out, XJ.out, OJ.out⟩
                  · go_wp2_with (first | (at_builtin; refine wpList_append_any _ rfl (.tmp 39) (.tmp 42) _ rfl (wv.heap.size + 1) 24 i0 _ 1 8 Try.underlying88 hi0 hz0 hz1 hz2 rfl (by omega) _ _ _ rfl (World.ownsRow.alloc OJ.out _) _ _ 1 1 [.int .u64 x.1] rfl (num_new _ _) (by simp [Value.oneCell']) (by (try simp only [List.length_append, List.length_cons, List.length_nil]); unfold maxLen; omega) (by (try simp only [List.length_append, List.length_cons, List.length_nil]); omega) (Nat.le_trans HBJ.out (by simp)) ?_; intro v1 w1 hown hg hat; obtain ⟨p1, p2, p3, p4⟩ := push_after OJ.out BJ.out XJ.out (Nat.lt_succ_self _) (Nat.le_succ _) HBJ.out hown hg; have f1 : w1.cell? ⟨wv.heap.size, 0, none⟩ = some (.int .u64 x.1) := (Blk.cell p3 0).trans rfl; have OJ := hid p1; have BJ := hid p2; have XJ := hid p3; have HBJ := hid p4; clear p1 p2 p3 p4 hown hg hat) | (at_builtin; refine wpList_append_any _ rfl (.tmp 48) (.tmp 50) _ rfl (wv.heap.size + 1) 24 i0 _ 1 8 Try.underlying88 hi0 hz0 hz1 hz2 rfl (by omega) _ _ _ rfl (World.ownsRow.alloc OJ.out _) _ _ 1 1 [.int .u64 y] rfl (num_new _ _) (by simp [Value.oneCell']) (by (try simp only [List.length_append, List.length_cons, List.length_nil]); unfold maxLen; omega) (by (try simp only [List.length_append, List.length_cons, List.length_nil]); omega) (Nat.le_trans HBJ.out (by simp)) ?_; intro v1 w1 hown hg hat; obtain ⟨p1, p2, p3, p4⟩ := push_after OJ.out BJ.out XJ.out (Nat.lt_succ_self _) (Nat.le_succ _) HBJ.out hown hg; have f1 : w1.cell? ⟨wv.heap.size, 0, none⟩ = some (.int .u64 x.1) := (Blk.cell p3 0).trans rfl; have OJ := hid p1; have BJ := hid p2; have XJ := hid p3; have HBJ := hid p4; clear p1 p2 p3 p4 hown hg hat))
                    go_roundw
                    case measure => simp [intOf] <;> omega
                    case rel => exact ⟨j + 1, true, (nx ++ [x.1]) ++ [y], by omega, by go_num, rfl, HIS.out.trans (by rw [IS.out]; simp [stepI, hge, hyc]), BJ.out, HBJ.out, XJ.out, OJ.out⟩
                · have hlt2 : y < x.1 := by omega
                  have hyc : ¬ y = x.1 := by omega
                  go_wp2_with (at_builtin; refine wpList_append_any _ rfl (.tmp 48) (.tmp 50) _ rfl (wv.heap.size + 1) 24 i0 _ 1 8 Try.underlying88 hi0 hz0 hz1 hz2 rfl (by omega) _ _ _ rfl (World.ownsRow.alloc OJ.out _) _ _ 1 1 [.int .u64 y] rfl (num_new _ _) (by simp [Value.oneCell']) (by (try simp only [List.length_append, List.length_cons, List.length_nil]); unfold maxLen; omega) (by (try simp only [List.length_append, List.length_cons, List.length_nil]); omega) (Nat.le_trans HBJ.out (by simp)) ?_; intro v1 w1 hown hg hat; obtain ⟨p1, p2, p3, p4⟩ := push_after OJ.out BJ.out XJ.out (Nat.lt_succ_self _) (Nat.le_succ _) HBJ.out hown hg; have f1 : w1.cell? ⟨wv.heap.size, 0, none⟩ = some (.int .u64 x.1) := (Blk.cell p3 0).trans rfl; have OJ := hid p1; have BJ := hid p2; have XJ := hid p3; have HBJ := hid p4; clear p1 p2 p3 p4 hown hg hat)
                  go_roundw
                  case measure => simp [intOf] <;> omega
                  case rel => exact ⟨j + 1, false, nx ++ [y], by omega, by go_num, rfl, HIS.out.trans (by rw [IS.out]; simp [stepI, hge, hyc]), BJ.out, HBJ.out, XJ.out, OJ.out⟩
            · have hjz : ¬ (j : Int) < (m : Int) := by omega
              have hjm2 : j = m := by omega
              have hIS : insS x.1 ids = (nx, bd) := by
                have := IS.out
                rwa [List.take_of_length_le (by rw [HML.out]; omega)] at this
              have HIS := hid hIS
              have hlen4 : nx.length ≤ m + bd.toNat := by omega
              clear hIS hjm2
              cases bd with
              | true =>
                go_wp2_with fail
                go_roundw
                case measure => simp [intOf] <;> omega
                case rel => exact ⟨k + 1, by omega, by go_num, BK.out.trans (BJ.out.mono BK.out.size), by rw [HSN.out]; show Hid (OwnU _ _ _ (insL x.1 ids)); unfold insL; rw [HIS.out]; exact ownU_base OJ.out (by have := BK.out.size; omega)⟩
              | false =>
                have hlen5 : nx.length ≤ m := hlen4
                go_wp2_with (at_builtin; refine wpList_append_any _ rfl (.tmp 55) (.tmp 58) _ rfl (wv.heap.size + 1) 24 i0 _ 1 8 Try.underlying88 hi0 hz0 hz1 hz2 rfl (by omega) _ _ _ rfl (World.ownsRow.alloc OJ.out _) _ _ 1 1 [.int .u64 x.1] rfl (num_new _ _) (by simp [Value.oneCell']) (by unfold maxLen; omega) (by omega) (Nat.le_trans HBJ.out (by simp)) ?_; intro v1 w1 hown hg hat; obtain ⟨p1, p2, p3, p4⟩ := push_after OJ.out BJ.out XJ.out (Nat.lt_succ_self _) (Nat.le_succ _) HBJ.out hown hg; have OJ := hid p1; have BJ := hid p2; clear p1 p2 p3 p4 hown hg hat)
                go_roundw
                case measure => simp [intOf] <;> omega
                case rel => exact ⟨k + 1, by omega, by go_num, BK.out.trans (BJ.out.mono BK.out.size), by rw [HSN.out]; show Hid (OwnU _ _ _ (insL x.1 ids)); unfold insL; rw [HIS.out]; exact ownU_base OJ.out (by have := BK.out.size; omega)⟩
        · have hkz : ¬ (k : Int) < (n : Int) := by omega
          have hkn2 : k = n := by omega
          have HO2 : Hid (OwnU wv w.heap.size u3 (idsL (pre ++ cs))) := by
            have := OK.out
            rwa [List.take_of_length_le (by rw [hC.out.len]; omega)] at this
          clear hkn2 OK
          go_wp2_with fail
          go_roundw
          case measure => simp [intOf] <;> omega
          case rel =>
            rcases hpre.out.2 with ⟨e1, e2⟩ | ⟨e1, e2⟩
            · exact ⟨i + 1, by omega, by go_num, BK.out, cs1, .inr (.inl ⟨e1, rfl⟩), by rw [← e2]; exact HO2.out⟩
            · exact ⟨i + 1, by omega, by go_num, BK.out, cs1 ++ cs2, .inr (.inr ⟨e1, rfl⟩), by rw [← e2]; exact HO2.out⟩
    · have hltz : ¬ (i : Int) < 2 := by omega
      have hi2 : i = 2 := by omega
      obtain ⟨pre, hp, ho⟩ := OW.out
      obtain rfl : pre = cs1 ++ cs2 := by rcases hp with ⟨h, _⟩ | ⟨h, _⟩ | ⟨_, h⟩ <;> first | exact h | omega
      obtain ⟨Ao, m, co, rfl, hN⟩ := NumsAt.of_own ho
      have HOO := hid ho
      clear hi2 hN ho hp OW
      go_wp2_with fail
      go_ret
      exact ⟨_, rfl, HOO.out, BW.out⟩
end Go.Proofs.Ytndohmimcbmhdaa
