/- The library's functions on the nil slice. -/
import Derived.Test.YtndohmimcbmhdaaMz2
import Derived.Test.YtndohmimcbmhdaaMz6
import Derived.Deep.RegionHeld3
import Derived.StillTailTactics
set_option linter.unusedVariables false
set_option linter.unusedSimpArgs false
namespace Go.Proofs.Ytndohmimcbmhdaa
open Go.RowKit Go.Sort

set_option maxHeartbeats 1000000 in
theorem nil168 (w : World) : Calls Try.prog 168 #[.slice none 0 0, .int .i64 0, .int .i64 0, .func (.func 94) #[] #[]] w fun e w' => e = .returned (.tuple #[]) ∧ w = w' := by
  go_enter Try.func168, Try.ntmps168
  go_wp2_with fail
  go_loopw [8] (fun vi wr => vi = .int .i64 1 ∧ Hid (w = wr)) (fun _ _ => 0)
  case atStart => exact ⟨rfl, (rfl : w = w)⟩
  case round =>
    obtain ⟨rfl, EW⟩ := hrel
    have ew : w = wr := EW
    subst ew
    go_wp2_with fail
    go_end0
    exact ⟨rfl, rfl⟩

set_option maxHeartbeats 1000000 in
theorem nil148 (w : World) : Calls Try.prog 148 #[.slice none 0 0, .int .i64 0, .func (.func 94) #[] #[]] w fun e w' => e = .returned (.tuple #[]) ∧ w = w' := by
  go_enter Try.func148, Try.ntmps148
  go_wp2_with fail
  go_loopw [7, 8] (fun va vb wr => va = .int .i64 0 ∧ vb = .int .i64 20 ∧ Hid (w = wr)) (fun _ _ _ => 0)
  case atStart => exact ⟨rfl, rfl, (rfl : w = w)⟩
  case round =>
    obtain ⟨rfl, rfl, EW⟩ := hrel
    have ew : w = wr := EW
    subst ew
    go_wp2_with fail
    refine (nil168 w).mono ?_
    rintro e w1 ⟨rfl, rfl⟩
    go_wp2_with fail
    go_loopw [6] (fun va wq => va = .int .i64 20 ∧ Hid (w = wq)) (fun _ _ => 0)
    case atStart => exact ⟨rfl, (rfl : w = w)⟩
    case round =>
      obtain ⟨rfl, EW⟩ := hrel
      have ew : w = wr := EW
      subst ew
      go_wp2_with fail
      go_end0
      exact ⟨rfl, rfl⟩

set_option maxHeartbeats 400000 in
theorem nil93 (w : World) : Calls Try.prog 93 #[.slice none 0 0, .func (.func 94) #[] #[]] w fun e w' => e = .returned (.tuple #[]) ∧ w = w' := by
  go_enter Try.func93, Try.ntmps93
  go_wp2_with (go_at_call 148; refine (nil148 w).mono ?_; rintro e w1 ⟨rfl, rfl⟩)
  go_end0
  exact ⟨rfl, rfl⟩

set_option maxHeartbeats 400000 in
theorem nil96 (w : World) : Calls Try.prog 96 #[.slice none 0 0, .func (.func 97) #[] #[]] w fun e w' => e = .returned (.slice none 0 0) ∧ w = w' := by
  go_enter Try.func96, Try.ntmps96
  go_wp2_with fail
  go_ret
  exact ⟨rfl, rfl⟩

set_option maxHeartbeats 400000 in
theorem nil98 (w : World) (fn : Nat) (cb : Array Value) (p : Int × Int → Bool) (ht : TestOk fn cb p w) (eg : ∀ args w, (callFunc fn args).run Try.prog w = .ok (.enter fn args) w) :
    Calls Try.prog 98 #[.slice none 0 0, .func (.func fn) #[] cb] w fun e w' => e = .returned (.slice none 0 0) ∧ Below w.heap.size w w' := by
  have HI := hid (indexFunc150 w none 0 0 [] fn cb p CatsAt.nil_ ht eg)
  have hi : idxOf p [] = -1 := rfl
  rw [hi] at HI
  clear ht
  go_enter Try.func98, Try.ntmps98
  go_wp2_with fail
  refine HI.out.mono ?_
  rintro e w1 ⟨rfl, hb⟩
  go_wp2_with fail
  go_ret
  exact ⟨rfl, hb⟩
end Go.Proofs.Ytndohmimcbmhdaa

/- A label's form, plain. -/
set_option linter.unusedVariables false
set_option linter.unusedSimpArgs false
namespace Go.Proofs.Ytndohmimcbmhdaa
open Go.RowKit Go.Sort

/-- The level of a category: the first that bears the name, else the default. -/
def levelL (d : Int) (cs : List (Int × Int)) (id : Int) : Int := match cs.find? (fun c => c.1 == id) with | some c => c.2 | none => d

/-- The form of a label. -/
structure IsForm (d : Int) (cs F : List (Int × Int)) : Prop where
  rise : F.Pairwise (fun a b => a.1 < b.1)
  none_ : ∀ x ∈ F, x.2 ≠ d
  level : ∀ id, levelL d F id = levelL d cs id
  less : F.length ≤ cs.length

theorem find_of_mem {F : List (Int × Int)} (h : F.Pairwise (fun a b => a.1 < b.1)) {x : Int × Int} (hx : x ∈ F) : F.find? (fun c => c.1 == x.1) = some x := by
  induction F with
  | nil => cases hx
  | cons y F ih =>
    rw [List.pairwise_cons] at h
    rcases List.mem_cons.1 hx with rfl | hx
    · simp
    · have := h.1 x hx
      rw [List.find?_cons_of_neg (by simp; omega)]
      exact ih h.2 hx

theorem levelL_mem {d : Int} {F : List (Int × Int)} (h : F.Pairwise (fun a b => a.1 < b.1)) (hn : ∀ x ∈ F, x.2 ≠ d) (x : Int × Int) : x ∈ F ↔ levelL d F x.1 = x.2 ∧ x.2 ≠ d := by
  constructor
  · intro hx
    refine ⟨?_, hn x hx⟩
    unfold levelL; rw [find_of_mem h hx]
  · rintro ⟨h1, h2⟩
    unfold levelL at h1
    cases hf : F.find? (fun c => c.1 == x.1) with
    | none => rw [hf] at h1; exact absurd h1.symm h2
    | some c =>
      rw [hf] at h1
      have hm := List.mem_of_find?_eq_some hf
      have he : c.1 = x.1 := by simpa using List.find?_some hf
      have : c = x := Prod.ext he h1
      rwa [← this]

theorem rise_ext : ∀ (F G : List (Int × Int)), F.Pairwise (fun a b => a.1 < b.1) → G.Pairwise (fun a b => a.1 < b.1) → (∀ x, x ∈ F ↔ x ∈ G) → F = G := by
  intro F
  induction F with
  | nil =>
    intro G _ _ h
    cases G with
    | nil => rfl
    | cons y G => exact absurd ((h y).2 (by simp)) (by simp)
  | cons x F ih =>
    intro G hF hG h
    cases G with
    | nil => exact absurd ((h x).1 (by simp)) (by simp)
    | cons y G =>
      rw [List.pairwise_cons] at hF hG
      have e : x = y := by
        rcases List.mem_cons.1 ((h x).1 (by simp)) with rfl | hx
        · rfl
        · rcases List.mem_cons.1 ((h y).2 (by simp)) with rfl | hy
          · rfl
          · have := hG.1 x hx; have := hF.1 y hy; omega
      subst e
      congr 1
      refine ih G hF.2 hG.2 fun z => ?_
      constructor
      · intro hz
        rcases List.mem_cons.1 ((h z).1 (by simp [hz])) with rfl | hz'
        · have := hF.1 _ hz; omega
        · exact hz'
      · intro hz
        rcases List.mem_cons.1 ((h z).2 (by simp [hz])) with rfl | hz'
        · have := hG.1 _ hz; omega
        · exact hz'

theorem IsForm.unique {d : Int} {cs F G : List (Int × Int)} (h : IsForm d cs F) (k : IsForm d cs G) : F = G := by
  refine rise_ext F G h.rise k.rise fun x => ?_
  rw [levelL_mem h.rise h.none_, levelL_mem k.rise k.none_, h.level, k.level]

theorem compactFrom_facts : ∀ (r : List (Int × Int)) (x : Int × Int), (x :: r).Pairwise (fun a b => a.1 ≤ b.1) →
    (compactFrom x r).Pairwise (fun a b => a.1 < b.1) ∧ (∀ y ∈ compactFrom x r, x.1 < y.1) ∧ (∀ id, id ≠ x.1 → (compactFrom x r).find? (fun c => c.1 == id) = r.find? (fun c => c.1 == id)) ∧ (compactFrom x r).length ≤ r.length := by
  intro r
  induction r with
  | nil => intro x _; exact ⟨List.Pairwise.nil, (by intro y hy; cases hy), fun _ _ => rfl, Nat.le_refl _⟩
  | cons y r ih =>
    intro x h
    rw [List.pairwise_cons] at h
    obtain ⟨i1, i2, i3, i4⟩ := ih y h.2
    have hxy := h.1 y (by simp)
    unfold compactFrom
    by_cases e : (y.1 == x.1) = true
    · rw [if_pos e]
      have e' : y.1 = x.1 := by simpa using e
      refine ⟨i1, fun z hz => by have := i2 z hz; omega, fun id hid => ?_, by simp; omega⟩
      rw [i3 id (by omega), List.find?_cons_of_neg (by simp; omega)]
    · rw [if_neg e]
      have e' : y.1 ≠ x.1 := by simpa using e
      refine ⟨List.pairwise_cons.2 ⟨i2, i1⟩, fun z hz => ?_, fun id hid => ?_, by simp; omega⟩
      · rcases List.mem_cons.1 hz with rfl | hz
        · omega
        · have := i2 z hz; omega
      · by_cases hy : y.1 = id
        · rw [List.find?_cons_of_pos (by simpa using hy), List.find?_cons_of_pos (by simpa using hy)]
        · rw [List.find?_cons_of_neg (by simpa using hy), List.find?_cons_of_neg (by simpa using hy)]
          exact i3 id (by omega)

theorem compact_facts (C : List (Int × Int)) (h : C.Pairwise (fun a b => a.1 ≤ b.1)) :
    (compactL C).Pairwise (fun a b => a.1 < b.1) ∧ (∀ id, (compactL C).find? (fun c => c.1 == id) = C.find? (fun c => c.1 == id)) ∧ (compactL C).length ≤ C.length := by
  cases C with
  | nil => exact ⟨List.Pairwise.nil, fun _ => rfl, Nat.le_refl _⟩
  | cons x r =>
    obtain ⟨i1, i2, i3, i4⟩ := compactFrom_facts r x h
    refine ⟨List.pairwise_cons.2 ⟨i2, i1⟩, fun id => ?_, by simp [compactL]; omega⟩
    unfold compactL
    by_cases hx : x.1 = id
    · rw [List.find?_cons_of_pos (by simpa using hx), List.find?_cons_of_pos (by simpa using hx)]
    · rw [List.find?_cons_of_neg (by simpa using hx), List.find?_cons_of_neg (by simpa using hx)]
      exact i3 id (by omega)

theorem stably_find {C cs : List (Int × Int)} (h : Stably C cs) (id : Int) : C.find? (fun c => c.1 == id) = cs.find? (fun c => c.1 == id) := by
  rw [← List.head?_filter, ← List.head?_filter]
  exact congrArg List.head? (h id)

theorem form_of (d : Int) (cs C : List (Int × Int)) (hs : C.Pairwise (fun a b => a.1 ≤ b.1)) (hst : Stably C cs) (hl : C.length = cs.length) : IsForm d cs ((compactL C).filter (fun x => !(x.2 == d))) := by
  obtain ⟨i1, i2, i3⟩ := compact_facts C hs
  refine ⟨i1.filter _, fun x hx => ?_, fun id => ?_, ?_⟩
  · have := (List.mem_filter.1 hx).2; simpa using this
  · have e : levelL d cs id = levelL d (compactL C) id := by unfold levelL; rw [i2, stably_find hst]
    rw [e]
    have hr : ((compactL C).filter (fun x => !(x.2 == d))).Pairwise (fun a b => a.1 < b.1) := i1.filter _
    unfold levelL
    cases hf : (compactL C).find? (fun c => c.1 == id) with
    | none =>
      have : ((compactL C).filter (fun x => !(x.2 == d))).find? (fun c => c.1 == id) = none := by
        rw [List.find?_eq_none] at hf ⊢
        intro x hx
        exact hf x (List.mem_filter.1 hx).1
      rw [this]
    | some c =>
      have hm := List.mem_of_find?_eq_some hf
      have he : c.1 = id := by simpa using List.find?_some hf
      by_cases hd : c.2 = d
      · have : ((compactL C).filter (fun x => !(x.2 == d))).find? (fun c => c.1 == id) = none := by
          rw [List.find?_eq_none]
          intro x hx hxe
          have hxe' : x.1 = id := by simpa using hxe
          obtain ⟨hx1, hx2⟩ := List.mem_filter.1 hx
          have hfx := find_of_mem i1 hx1
          rw [hxe', hf] at hfx
          cases hfx
          simp at hx2; exact hx2 hd
        rw [this]; exact hd.symm
      · have : ((compactL C).filter (fun x => !(x.2 == d))).find? (fun c => c.1 == id) = some c := by
          have hm2 : c ∈ (compactL C).filter (fun x => !(x.2 == d)) := List.mem_filter.2 ⟨hm, by simpa using hd⟩
          have := find_of_mem hr hm2
          rwa [he] at this
        rw [this]
  · have := List.length_filter_le (fun x : Int × Int => !(x.2 == d)) (compactL C)
    omega
end Go.Proofs.Ytndohmimcbmhdaa

/- label.Make. -/
set_option linter.unusedVariables false
set_option linter.unusedSimpArgs false
namespace Go.Proofs.Ytndohmimcbmhdaa
open Go.RowKit Go.Sort

theorem Stably.length {l r : List (Int × Int)} (h : Stably l r) : l.length = r.length := by
  have hp : l.Perm r := List.perm_iff_count.2 fun a => by
    have e1 : (named l a.1).count a = l.count a := List.count_filter (by simp)
    have e2 : (named r a.1).count a = r.count a := List.count_filter (by simp)
    rw [← e1, ← e2, h a.1]
  exact hp.length_eq

theorem belowT {a b c : World} (h : Below a.heap.size a b) (k : Below b.heap.size b c) : Below a.heap.size a c := h.trans (k.mono h.size)
theorem eg99 : ∀ args w, (callFunc 99 args).run Try.prog w = .ok (.enter 99 args) w := fun args w => by
  first | kernel_rfl | (simp [callFunc]; done)

/-- What Make hands back: a label in its form, in memory of its own. -/
def Made (d : Int) (cs : List (Int × Int)) (w : World) (e : Ending) (w' : World) : Prop :=
  ∃ v F, e = .returned (.agg #[.int .i64 d, v]) ∧ OwnCats w' w.heap.size v F ∧ IsForm d cs F ∧ Below w.heap.size w w'

theorem isForm_nil (d : Int) : IsForm d [] [] := ⟨List.Pairwise.nil, (by intro x hx; cases hx), fun _ => rfl, Nat.le_refl _⟩


/-- The label's two cells are stored. -/
theorem label_put {w : World} {g : Nat} {a b : Value} (h : Blk w g 26 #[a, b]) (u v : Value) : Blk ((w.setCell ⟨g, 0, none⟩ u).setCell ⟨g, 1, none⟩ v) g 26 #[u, v] := by
  have := Blk.set_ (Blk.set_ h 0 u) 1 v
  exact this
theorem label_info : (Try.prog.info? 26).map (·.size) = some 2 := by kernel_rfl
theorem label_run {w : World} {g : Nat} {u v : Value} (h : Blk w g 26 #[u, v]) {fn : Func} {p : Tmp} (hf : fn.results = #[.cell p 26]) (tmps : Array Value) (hp : tmps.getD p undef = .pointer (some ⟨g, 0, none⟩)) :
    (results fn tmps).run Try.prog w = .ok (.agg #[u, v]) w :=
  results_cell_row hf tmps w g 26 #[u, v] (0, 0) _ hp h Try.underlying26 rfl label_info
theorem only_blk {w w' : World} {g k : Nat} {t : TypeId} {cs : Array Value} (h : Blk w k t cs) (hb : w.grownBy w' (some g)) (hne : k ≠ g) : Blk w' k t cs := h.grown hb (by simp; exact hne)

set_option maxRecDepth 100000 in
set_option maxHeartbeats 2000000 in
theorem make34 (w : World) (d : Int) (A : Option Addr) (n c : Nat) (cs : List (Int × Int)) (h : CatsAt w w.heap.size A n c cs) (hn : n ≤ 8796093022208) :
    Calls Try.prog 34 #[.int .i64 d, .slice A n c] w fun e w' => Made d cs w e w' := by
  have mixed : Try.prog.follows .mixedOrders = true := by kernel_rfl
  have H := hid h
  have HLN := hid h.len
  clear h
  go_enter Try.func34, Try.ntmps34
  go_wp2_with fail
  have hbw : Below w.heap.size w ((w.alloc (.cells #[.int .i64 d] 3)).alloc (.cells #[.int .i64 0, .slice none 0 0] 26)) := ((Below.refl _ w).alloc (Nat.le_refl _) _).alloc (by simp) _
  refine (clone92 _ A n c cs ((H.out.below hbw).more (by simp <;> omega)) hn).mono ?_
  rintro e w1 ⟨v, rfl, hv, hb1⟩
  have hB0 : Blk w1 w.heap.size 3 #[.int .i64 d] := ((Blk.new w 3 #[.int .i64 d]).alloc _).below hb1 (by simp <;> omega)
  have hB1 : Blk w1 (w.heap.size + 1) 26 #[.int .i64 0, .slice none 0 0] := by
    have := Blk.new (w.alloc (.cells #[.int .i64 d] 3)) 26 #[.int .i64 0, .slice none 0 0]
    have e : (w.alloc (.cells #[.int .i64 d] 3)).heap.size = w.heap.size + 1 := by simp
    rw [e] at this
    exact this.below hb1 (by simp <;> omega)
  have hs1 : w.heap.size + 2 ≤ w1.heap.size := by have := hb1.size; simpa using this
  have HB1 := hid (hbw.trans (hb1.mono (by simp <;> omega)))
  have hs2 : w.heap.size + 2 ≤ ((w.alloc (.cells #[.int .i64 d] 3)).alloc (.cells #[.int .i64 0, .slice none 0 0] 26)).heap.size := by simp
  rcases hv with ⟨rfl, rfl⟩ | ⟨g, cap, tl, rfl, hg, hc, hm, hr, hlen⟩
  · clear hb1 hbw hs2
    have HT : Hid (∀ W, Below w1.heap.size w1 W → TestOk 99 #[.pointer (some ⟨w.heap.size, 0, none⟩)] (fun x => x.2 == d) W) := by
      intro W hW W' hW' x
      have hlt : w.heap.size < w1.heap.size := by omega
      have hlt2 : w.heap.size < W.heap.size := Nat.lt_of_lt_of_le hlt hW.size
      have hk := (hB0.below hW hlt).below hW' hlt2
      refine (isDef99 x _ d W' hk.lt ((Blk.cell hk 0).trans rfl)).mono ?_
      rintro e w2 ⟨he, q, os, rfl⟩
      exact ⟨he, hW'.trans ((grown_below q os).mono hW'.size)⟩
    go_wp2_with (first | (go_at_call 93; refine (nil93 _).mono ?_; rintro e w2 ⟨rfl, rfl⟩) | (go_at_call 96; refine (nil96 _).mono ?_; rintro e w2 ⟨rfl, rfl⟩))
    have HKB : Hid (∀ W, Below w1.heap.size w1 W → (W.cell? ⟨w.heap.size, 0, none⟩ = some (.int .i64 d) ∧ (W.cell? ⟨w.heap.size + 1, 0, none⟩ = some (.int .i64 0) ∧ W.cell? ⟨w.heap.size + 1, 1, none⟩ = some (.slice none 0 0)) ∧ (W.frozen? ⟨w.heap.size + 1, 0, none⟩ = false ∧ W.frozen? ⟨w.heap.size + 1, 1, none⟩ = false)) ∧ Hid (Blk W (w.heap.size + 1) 26 #[.int .i64 0, .slice none 0 0])) := by
      intro W hW
      have hA := hB0.below hW (by omega)
      have hB := hB1.below hW (by omega)
      exact ⟨⟨(Blk.cell hA 0).trans rfl, ⟨(Blk.cell hB 0).trans rfl, (Blk.cell hB 1).trans rfl⟩, Blk.frozen hB 0, Blk.frozen hB 1⟩, hB⟩
    have b0 : w1.cell? ⟨w.heap.size, 0, none⟩ = some (.int .i64 d) := (Blk.cell hB0 0).trans rfl
    clear hB1 hB0
    go_region_with
      (first | (go_at_call 98; refine (nil98 _ 99 #[.pointer (some ⟨w.heap.size, 0, none⟩)] (fun x => x.2 == d) (HT.out _ (by first | exact Below.refl _ _ | exact (Below.refl _ _).drew)) eg99).mono ?_; rintro e w2 ⟨rfl, hb2⟩; obtain ⟨⟨z0, z1, z2⟩, zB⟩ := HKB.out w2 ((Below.refl _ w1).drew.trans hb2)))
    all_goals
      go_wp2_with fail
      refine bodyPost_ret (label_run (label_put zB.out _ _) rfl _ rfl) rfl ?_
      have hbb : Below w.heap.size w1 w2 := ((Below.refl _ w1).drew.trans hb2).mono (by show w.heap.size ≤ w1.heap.size; omega)
      exact ⟨_, [], rfl, .inl ⟨rfl, rfl⟩, isForm_nil d, ((HB1.out.trans hbb).setCell (p := ⟨w.heap.size + 1, 0, none⟩) (by show w.heap.size ≤ w.heap.size + 1; omega) _).setCell (p := ⟨w.heap.size + 1, 1, none⟩) (by show w.heap.size ≤ w.heap.size + 1; omega) _⟩
  · have hg2 : w.heap.size + 2 ≤ g := Nat.le_trans hs2 hg
    have HS := hid (sortStable93 w1 g cs.length cap cs tl hr rfl hc (by have := HLN.out; omega))
    have HLEN := hid hlen
    have HC := hid hc
    have HMX := hid hm
    clear hb1 hbw hs2 hr hlen
    go_wp2_with fail
    refine HS.out.mono ?_
    rintro e w2 ⟨rfl, C, hr2, hg12, hsC, hstC⟩
    have hCl := hstC.length
    have HF := hid (form_of d cs C hsC hstC hCl)
    have HCL := hid hCl
    have hC2 := compact_facts C hsC
    have HCP := hid (compact96 w2 g C.length cap C tl hr2 rfl (by rw [hCl]; exact hc) hm)
    rw [hCl] at HCP
    clear hr2 hsC hstC HS
    go_wp2_with fail
    refine HCP.out.mono ?_
    rintro e w3 ⟨rfl, tl3, hr3, hl3, hg23⟩
    have HR3 := hid hr3
    have G13 := hid (only_trans hg12 hg23)
    have HKL := hid hC2.2.2
    have HL3 := hid hl3
    generalize hK : compactL C = K at *
    have B03 := only_blk hB0 G13.out (by omega)
    have B13 := only_blk hB1 G13.out (by omega)
    have S3 : w1.heap.size ≤ w3.heap.size := G13.out.size
    have HT : Hid (∀ W, w3.grownBy W (some g) → TestOver 99 #[.pointer (some ⟨w.heap.size, 0, none⟩)] (fun x => x.2 == d) W g) := by
      intro W hW W' hW' x
      have hk := only_blk (only_blk B03 hW (by omega)) hW' (by omega)
      refine (isDef99 x _ d W' hk.lt ((Blk.cell hk 0).trans rfl)).mono ?_
      rintro e w2 ⟨he, q, os, rfl⟩
      exact ⟨he, grown_below q os⟩
    have HKB : Hid (∀ W, w3.grownBy W (some g) → (W.cell? ⟨w.heap.size, 0, none⟩ = some (.int .i64 d) ∧ (W.cell? ⟨w.heap.size + 1, 0, none⟩ = some (.int .i64 0) ∧ W.cell? ⟨w.heap.size + 1, 1, none⟩ = some (.slice none 0 0)) ∧ (W.frozen? ⟨w.heap.size + 1, 0, none⟩ = false ∧ W.frozen? ⟨w.heap.size + 1, 1, none⟩ = false)) ∧ Hid (Blk W (w.heap.size + 1) 26 #[.int .i64 0, .slice none 0 0])) := by
      intro W hW
      have hA := only_blk B03 hW (by omega)
      have hB := only_blk B13 hW (by omega)
      exact ⟨⟨(Blk.cell hA 0).trans rfl, ⟨(Blk.cell hB 0).trans rfl, (Blk.cell hB 1).trans rfl⟩, Blk.frozen hB 0, Blk.frozen hB 1⟩, hB⟩
    have HD : Hid (∀ W, Row W g K tl3 → w3.grownBy W (some g) → Calls Try.prog 98 #[.slice (some ⟨g, 0, none⟩) K.length cap, .func (.func 99) #[] #[.pointer (some ⟨w.heap.size, 0, none⟩)]] W fun e w' => e = .returned (.slice (some ⟨g, 0, none⟩) (K.filter (fun x => !(x.2 == d))).length cap) ∧ Shrunk W g K (K.filter (fun x => !(x.2 == d))) tl3 w') := by
      intro W hR hW
      exact delete98 W g K.length cap K tl3 99 _ (fun x => x.2 == d) hR rfl (by have := HKL.out; have := HC.out; omega) HMX.out (HT.out W hW) eg99
    have b0 : w3.cell? ⟨w.heap.size, 0, none⟩ = some (.int .i64 d) := (Blk.cell B03 0).trans rfl
    have HFL := hid (HF.out.less)
    clear hr3 hl3 hg12 hg23 hC2 HCP B03 B13 HT hB0 hB1 hK hCl
    generalize hFF : K.filter (fun x => !(x.2 == d)) = F at *
    go_wp2_with fail
    go_region_with
      (first | (go_at_call 98; refine (HD.out _ (by first | exact HR3.out | exact HR3.out.drew) (by first | exact only_refl _ _ | exact only_drew (only_refl _ _))).mono ?_; rintro e w4 ⟨rfl, tl4, hr4, hl4, hg4⟩; obtain ⟨⟨z0, z1, z2⟩, zB⟩ := HKB.out w4 (only_trans (only_drew (only_refl _ _)) hg4)))
    all_goals
      go_wp2_with fail
      refine bodyPost_ret (label_run (label_put zB.out _ _) rfl _ rfl) rfl ?_
      have hbb : Below w.heap.size w3 w4 := (Below.refl _ w3).grown (only_trans (only_drew (only_refl _ _)) hg4) (by omega) (fun k hk => by cases hk; omega)
      have hb3 : Below w.heap.size w1 w3 := (Below.refl _ w1).grown G13.out (by omega) (fun k hk => by cases hk; omega)
      refine ⟨_, F, rfl, .inr ⟨g, cap, tl4, rfl, by omega, by have := HFL.out; have := HC.out; omega, HMX.out, (hr4.far (p := ⟨w.heap.size + 1, 0, none⟩) (by show g ≠ w.heap.size + 1; omega) _).far (p := ⟨w.heap.size + 1, 1, none⟩) (by show g ≠ w.heap.size + 1; omega) _, ?_⟩, HF.out, ((HB1.out.trans (hb3.trans hbb)).setCell (p := ⟨w.heap.size + 1, 0, none⟩) (by show w.heap.size ≤ w.heap.size + 1; omega) _).setCell (p := ⟨w.heap.size + 1, 1, none⟩) (by show w.heap.size ≤ w.heap.size + 1; omega) _⟩
      have q1 := HLEN.out
      have q2 := HL3.out
      have q3 := HCL.out
      simp only [List.length_append, flat_length] at q1 q2 hl4 ⊢
      omega
end Go.Proofs.Ytndohmimcbmhdaa
