/- What the laws share: categories keep when cells that hold no ids are written; labels copied into cells. -/
import Derived.Test.YtndohmimcbmhdaaRd
import Derived.Test.YtndohmimcbmhdaaMb
set_option linter.unusedVariables false
set_option linter.unusedSimpArgs false
namespace Go.Proofs.Ytndohmimcbmhdaa
open Go.RowKit Go.Sort

/-- A block without ids. -/
def Bare (w : World) (g : Nat) : Prop := ∃ t cs, Blk w g t cs ∧ ∀ (i : Nat) (x : Int), cs[i]? ≠ some (.int .u64 x)
theorem bare26 {w : World} {g : Nat} {a : Int} {A : Option Addr} {n c : Nat} (h : Blk w g 26 #[.int .i64 a, .slice A n c]) : Bare w g :=
  ⟨_, _, h, fun i x => by
    match i with
    | 0 => simp
    | 1 => simp
    | i + 2 => simp⟩
theorem CatsAt.keep {D : Nat → Prop} {w w' : World} {B : Nat} {A : Option Addr} {n c : Nat} {cs : List (Int × Int)} (h : CatsAt w B A n c cs) (hB : B ≤ w.heap.size) (hb : But D w w') (hD : ∀ g, D g → Bare w g) : CatsAt w' B A n c cs :=
  ⟨h.len, h.cap, h.max, fun hn => by
    obtain ⟨b, off, e, hlt, hc⟩ := h.cells hn
    refine ⟨b, off, e, hlt, fun i x hx => ?_⟩
    have hnd : ¬ D b := fun hd => by
      obtain ⟨t, l, hk, hno⟩ := hD b hd
      have h0 := (hc i x hx).1
      rw [Blk.cell hk] at h0
      exact hno _ _ h0
    have hh := hb.block b (by omega) hnd
    have hcell : ∀ k, w'.cell? ⟨b, k, none⟩ = w.cell? ⟨b, k, none⟩ := fun k => by simp [World.cell?, hh]
    rw [hcell, hcell]
    exact hc i x hx⟩
theorem LabR.keep {D : Nat → Prop} {w w' : World} {d : Int} {F : List (Int × Int)} {v : Value} (h : LabR d F w v) (hb : But D w w') (hD : ∀ g, D g → Bare w g) : LabR d F w' v := by
  obtain ⟨A, n, c, e, hT⟩ := h
  exact ⟨A, n, c, e, (hT.keep (Nat.le_refl _) hb hD).more hb.size⟩
/-- Two labels laid into cells. -/
theorem put2 {w : World} {g h : Nat} {a b a' b' : Value} (hg : Blk w g 26 #[a, b]) (hh : Blk w h 26 #[a', b']) (hne : g ≠ h) (x y x' y' : Value) :
    ∃ W, (((w.setCell ⟨g, 0, none⟩ x).setCell ⟨g, 1, none⟩ y).setCell ⟨h, 0, none⟩ x').setCell ⟨h, 1, none⟩ y' = W ∧ Blk W g 26 #[x, y] ∧ Blk W h 26 #[x', y'] ∧ But (fun k => k = g ∨ k = h) w W := by
  have h1 := label_put hg x y
  have h2 := label_put (Blk.far (Blk.far hh (p := ⟨g, 0, none⟩) (fun e => hne e.symm) x) (p := ⟨g, 1, none⟩) (fun e => hne e.symm) y) x' y'
  refine ⟨_, rfl, Blk.far (Blk.far h1 (p := ⟨h, 0, none⟩) hne _) (p := ⟨h, 1, none⟩) hne _, h2, ?_⟩
  exact ((((But.refl (fun k => k = g ∨ k = h) w).setCell (p := ⟨g, 0, none⟩) (.inl (.inl rfl)) _).setCell (p := ⟨g, 1, none⟩) (.inl (.inl rfl)) _).setCell (p := ⟨h, 0, none⟩) (.inl (.inr rfl)) _).setCell (p := ⟨h, 1, none⟩) (.inl (.inr rfl)) _
theorem put1 {w : World} {g : Nat} {a b : Value} (hg : Blk w g 26 #[a, b]) (x y : Value) :
    ∃ W, (w.setCell ⟨g, 0, none⟩ x).setCell ⟨g, 1, none⟩ y = W ∧ Blk W g 26 #[x, y] ∧ But (fun k => k = g) w W :=
  ⟨_, rfl, label_put hg x y, ((But.refl (fun k => k = g) w).setCell (p := ⟨g, 0, none⟩) (.inl rfl) _).setCell (p := ⟨g, 1, none⟩) (.inl rfl) _⟩
theorem Blk.cells2 {w : World} {g : Nat} {t : TypeId} {a b : Value} (h : Blk w g t #[a, b]) : w.cell? ⟨g, 0, none⟩ = some a ∧ w.cell? ⟨g, 1, none⟩ = some b := ⟨(Blk.cell h 0).trans rfl, (Blk.cell h 1).trans rfl⟩

section
variable (w : World) (d d' : Int) (A A' : Option Addr) (n c n' c' : Nat) (cs cs' : List (Int × Int))
theorem merge45_join (h : CatsAt w w.heap.size A n c cs) (h' : CatsAt w w.heap.size A' n' c' cs') (hn : n + n' ≤ 8796093022208) :
    Calls Try.prog 45 #[.agg #[.int .i64 d, .slice A n c], .agg #[.int .i64 d', .slice A' n' c'], .bool true] w fun e w' => RetLab (max d d') (joinL d cs d' cs') w e w' :=
  (merge45 w d d' A A' n c n' c' cs cs' true h h' hn).mono fun _ _ h => by
    have e : formL (pickF true d d') (mergeD (pickF true) d cs d' cs') = joinL d cs d' cs' := mergeD_form (fun x y => max x y) d cs d' cs'
    rw [e] at h
    exact h.lab
theorem merge45_meet (h : CatsAt w w.heap.size A n c cs) (h' : CatsAt w w.heap.size A' n' c' cs') (hn : n + n' ≤ 8796093022208) :
    Calls Try.prog 45 #[.agg #[.int .i64 d, .slice A n c], .agg #[.int .i64 d', .slice A' n' c'], .bool false] w fun e w' => RetLab (min d d') (meetL d cs d' cs') w e w' :=
  (merge45 w d d' A A' n c n' c' cs cs' false h h' hn).mono fun _ _ h => by
    have e : formL (pickF false d d') (mergeD (pickF false) d cs d' cs') = meetL d cs d' cs' := mergeD_form (fun x y => min x y) d cs d' cs'
    rw [e] at h
    exact h.lab
theorem turn47_raise (h : CatsAt w w.heap.size A n c cs) (hn : n ≤ 8796093022208) : Calls Try.prog 47 #[.agg #[.int .i64 d, .slice A n c], .int .i64 0, .int .i64 5] w fun e w' => RetLab (turnF 0 5 d d) (raiseL d cs) w e w' :=
  (turn47 w d 0 5 A n c cs h hn).mono fun _ _ h => h.lab
theorem turn47_lower (h : CatsAt w w.heap.size A n c cs) (hn : n ≤ 8796093022208) : Calls Try.prog 47 #[.agg #[.int .i64 d, .slice A n c], .int .i64 5, .int .i64 0] w fun e w' => RetLab (turnF 5 0 d d) (lowerL d cs) w e w' :=
  (turn47 w d 5 0 A n c cs h hn).mono fun _ _ h => h.lab
theorem set50_l (id lv : Int) (h : CatsAt w w.heap.size A n c cs) (hn : n + 1 ≤ 8796093022208) : Calls Try.prog 50 #[.agg #[.int .i64 d, .slice A n c], .int .u64 id, .int .i64 lv] w fun e w' => RetLab d (formL d ((id, lv) :: cs)) w e w' :=
  (set50 w d id lv A n c cs h hn).mono fun _ _ h => h.lab
theorem exact36_true (h : CatsAt w w.heap.size A n c cs) (h' : CatsAt w w.heap.size A' n' c' cs) :
    Calls Try.prog 36 #[.agg #[.int .i64 d, .slice A n c], .agg #[.int .i64 d, .slice A' n' c']] w fun e w' => e = .returned (.bool true) ∧ Below w.heap.size w w' := by
  have := exact36 w d d A A' n c n' c' cs cs h h'
  have e : exactB d cs d cs = true := by unfold exactB; simp
  rwa [e] at this
end

theorem level_join (d : Int) (cs : List (Int × Int)) (d' : Int) (cs' : List (Int × Int)) (id : Int) : levelL (max d d') (joinL d cs d' cs') id = max (levelL d cs id) (levelL d' cs' id) := by
  unfold joinL; rw [(formL_is _ _).level]; exact levelL_merge (fun x y => max x y) d cs d' cs' id
theorem level_meet (d : Int) (cs : List (Int × Int)) (d' : Int) (cs' : List (Int × Int)) (id : Int) : levelL (min d d') (meetL d cs d' cs') id = min (levelL d cs id) (levelL d' cs' id) := by
  unfold meetL; rw [(formL_is _ _).level]; exact levelL_merge (fun x y => min x y) d cs d' cs' id
theorem level_raise (d : Int) (cs : List (Int × Int)) (id : Int) : levelL (turnF 0 5 d d) (raiseL d cs) id = turnF 0 5 (levelL d cs id) (levelL d cs id) := by
  unfold raiseL; rw [(formL_is _ _).level, levelL_merge (turnF 0 5)]
theorem level_lower (d : Int) (cs : List (Int × Int)) (id : Int) : levelL (turnF 5 0 d d) (lowerL d cs) id = turnF 5 0 (levelL d cs id) (levelL d cs id) := by
  unfold lowerL; rw [(formL_is _ _).level, levelL_merge (turnF 5 0)]
theorem level_form (d : Int) (cs : List (Int × Int)) (id : Int) : levelL d (formL d cs) id = levelL d cs id := (formL_is d cs).level id
theorem joinL_len (d : Int) (cs : List (Int × Int)) (d' : Int) (cs' : List (Int × Int)) : (joinL d cs d' cs').length ≤ cs.length + cs'.length := by
  unfold joinL
  exact Nat.le_trans (formL_len _ _) (by rw [mergeL_len]; omega)
theorem meetL_len (d : Int) (cs : List (Int × Int)) (d' : Int) (cs' : List (Int × Int)) : (meetL d cs d' cs').length ≤ cs.length + cs'.length := by
  unfold meetL
  exact Nat.le_trans (formL_len _ _) (by rw [mergeL_len]; omega)
theorem raiseL_len (d : Int) (cs : List (Int × Int)) : (raiseL d cs).length ≤ cs.length + cs.length := by
  unfold raiseL
  exact Nat.le_trans (formL_len _ _) (by rw [mergeL_len]; omega)
theorem lowerL_len (d : Int) (cs : List (Int × Int)) : (lowerL d cs).length ≤ cs.length + cs.length := by
  unfold lowerL
  exact Nat.le_trans (formL_len _ _) (by rw [mergeL_len]; omega)

/-! ### The lattice -/
theorem leqB_true {d : Int} {cs : List (Int × Int)} {d' : Int} {cs' : List (Int × Int)} (h : d ≤ d') (h' : ∀ id, levelL d cs id ≤ levelL d' cs' id) : leqB d cs d' cs' = true := (leqB_iff _ _ _ _).2 ⟨h, h'⟩
theorem leq_self (d : Int) (cs : List (Int × Int)) : leqB d cs d cs = true := leqB_true (Int.le_refl _) fun _ => Int.le_refl _
section
variable (a : Int) (l : List (Int × Int)) (b : Int) (m : List (Int × Int)) (c : Int) (k : List (Int × Int))
theorem leq_join1 : leqB a l (max a b) (joinL a l b m) = true := leqB_true (by omega) fun id => by rw [level_join]; omega
theorem leq_join2 : leqB b m (max a b) (joinL a l b m) = true := leqB_true (by omega) fun id => by rw [level_join]; omega
theorem leq_meet1 : leqB (min a b) (meetL a l b m) a l = true := leqB_true (by omega) fun id => by rw [level_meet]; omega
theorem leq_meet2 : leqB (min a b) (meetL a l b m) b m = true := leqB_true (by omega) fun id => by rw [level_meet]; omega
theorem leq_trans (h : leqB a l b m = true) (h' : leqB b m c k = true) : leqB a l c k = true := by
  rw [leqB_iff] at h h' ⊢
  exact ⟨by omega, fun id => Int.le_trans (h.2 id) (h'.2 id)⟩
theorem leq_lub (h : leqB a l c k = true) : leqB (max a b) (joinL a l b m) c k = leqB b m c k := by
  rw [Bool.eq_iff_iff, leqB_iff, leqB_iff]
  rw [leqB_iff] at h
  constructor
  · exact fun ⟨h1, h2⟩ => ⟨by omega, fun id => by have := h2 id; rw [level_join] at this; omega⟩
  · exact fun ⟨h1, h2⟩ => ⟨by omega, fun id => by have := h2 id; have := h.2 id; rw [level_join]; omega⟩
theorem leq_glb (h : leqB c k a l = true) : leqB c k (min a b) (meetL a l b m) = leqB c k b m := by
  rw [Bool.eq_iff_iff, leqB_iff, leqB_iff]
  rw [leqB_iff] at h
  constructor
  · exact fun ⟨h1, h2⟩ => ⟨by omega, fun id => by have := h2 id; rw [level_meet] at this; omega⟩
  · exact fun ⟨h1, h2⟩ => ⟨by omega, fun id => by have := h2 id; have := h.2 id; rw [level_meet]; omega⟩
theorem sameB_true {a : Int} {l : List (Int × Int)} {b : Int} {m : List (Int × Int)} (h : a = b) (h' : ∀ id, levelL a l id = levelL b m id) : sameB a l b m = true := by
  unfold sameB
  rw [leqB_true (by omega) fun id => by rw [h' id]; exact Int.le_refl _, leqB_true (by omega) fun id => by rw [h' id]; exact Int.le_refl _]
  rfl
theorem same_join : sameB (max a b) (joinL a l b m) (max b a) (joinL b m a l) = true := sameB_true (by omega) fun id => by rw [level_join, level_join]; omega
theorem same_absorb : sameB (min a (max a b)) (meetL a l (max a b) (joinL a l b m)) a l = true := sameB_true (by omega) fun id => by rw [level_meet, level_join]; omega
theorem same_least : sameB (max a b) (joinL a l b m) b m = leqB a l b m := by
  unfold sameB
  rw [leq_join2, Bool.and_true, Bool.eq_iff_iff, leqB_iff, leqB_iff]
  constructor
  · exact fun ⟨h1, h2⟩ => ⟨by omega, fun id => by have := h2 id; rw [level_join] at this; omega⟩
  · exact fun ⟨h1, h2⟩ => ⟨by omega, fun id => by have := h2 id; rw [level_join]; omega⟩
end
end Go.Proofs.Ytndohmimcbmhdaa
