/- The document's IDs. -/
import Derived.Test.YtndohmimcbmhdaaNu
set_option linter.unusedVariables false
set_option linter.unusedSimpArgs false
namespace Go.Proofs.Ytndohmimcbmhdaa
open Go.RowKit Go.Sort

def IdsOut (w : World) (l : List Int) (e : Ending) (w' : World) : Prop := ∃ v, e = .returned v ∧ w'.ownsRow w.heap.size 24 1 v l.length (nums l) ∧ Below w.heap.size w w'
def OwnU (w : World) (base : Nat) (v : Value) (l : List Int) : Prop := w.ownsRow base 24 1 v l.length (nums l)
theorem OwnU.of {w : World} {base : Nat} {v : Value} {l : List Int} (h : w.ownsRow base 24 1 v l.length (nums l)) : OwnU w base v l := h

/-- Behind a push onto a row of the call's own: the row, what lay there, and a block that isn't the row's. -/
theorem push_after {w0 wj w1 : World} {B B0 g : Nat} {tg : TypeId} {cc : Array Value} {o : Obj} {v v1 : Value} {l : List Int} {x : Int} (hown : OwnU wj B v l) (hb : Below B0 w0 wj) (hk : Blk wj g tg cc) (hgB : g < B) (hB : B0 ≤ B) (hBj : B ≤ wj.heap.size)
    (ho : w1.ownsRow B 24 1 v1 (l.length + 1) (nums l ++ [.int .u64 x])) (hgr : (wj.alloc o).grownBy w1 v.ownBlock) : OwnU w1 B v1 (l ++ [x]) ∧ Below B0 w0 w1 ∧ Blk w1 g tg cc ∧ B ≤ w1.heap.size := by
  have hlt := World.ownsRow.lt hown
  refine ⟨OwnU.of (by rw [List.length_append, nums_append]; exact ho), (hb.alloc (by omega) o).grown hgr (by simp; omega) (fun k e => by have := (hlt k e).1; omega), (hk.alloc o).grown hgr (fun e => by have := (hlt g e.symm).1; omega), Nat.le_trans hBj (Nat.le_trans (by simp) hgr.size)⟩
theorem ownU_new (w : World) (o : Obj) {B : Nat} (hB : B ≤ w.heap.size + 1) : OwnU ((w.alloc o).alloc (.cells #[] 24)) B (.slice (some ⟨w.heap.size + 1, 0, none⟩) 0 0) [] := by
  have h := World.ownsRow_made (base := B) (e := 24) (size := 1) (w.alloc o) #[] 0 (by simpa using hB) (by simp [maxLen]) rfl
  have e : (w.alloc o).heap.size = w.heap.size + 1 := by simp
  rw [e] at h
  exact h
theorem ownU_below {w w' : World} {B : Nat} {v : Value} {l : List Int} (h : OwnU w B v l) (hb : Below w.heap.size w w') : OwnU w' B v l := World.ownsRow.kept (row := none) h (only_of_below hb none) (by cases v.ownBlock <;> simp)

theorem ownU_base {w : World} {B B' : Nat} {v : Value} {l : List Int} (h : OwnU w B v l) (hB : B' ≤ B) : OwnU w B' v l := by
  refine ⟨h.1, ?_⟩
  rcases h.2 with h | ⟨g, cap, cur, e, hb, r⟩
  · exact .inl h
  · exact .inr ⟨g, cap, cur, e, by omega, r⟩

set_option maxHeartbeats 4000000 in
set_option maxRecDepth 100000 in
theorem ids100 (w : World) (d1 d2 : Int) (A1 A2 : Option Addr) (n1 c1 n2 c2 : Nat) (cs1 cs2 : List (Int × Int)) (h1 : CatsAt w w.heap.size A1 n1 c1 cs1) (h2 : CatsAt w w.heap.size A2 n2 c2 cs2) (hn : n1 + n2 ≤ 17592186044416) :
    Calls Try.prog 100 #[.agg #[.int .i64 d1, .slice A1 n1 c1, .int .i64 d2, .slice A2 n2 c2]] w fun e w' => IdsOut w (idsL (cs1 ++ cs2)) e w' := by
  obtain ⟨i0, hi0, hz0, hz1, hz2⟩ := info_parts u64_info
  have H1 := hid h1
  have H2 := hid h2
  have L1 := hid h1.len
  have L2 := hid h2.len
  clear h1 h2
  go_enter Try.func100, Try.ntmps100
  go_wp2_with fail
  go_loopw [3, 14] (fun vo vi wr => ∃ i : Nat, i ≤ 2 ∧ vi = .int .i64 i ∧ Hid (Below w.heap.size w wr) ∧ Hid (∃ pre, (i = 0 ∧ pre = [] ∨ i = 1 ∧ pre = cs1 ∨ i = 2 ∧ pre = cs1 ++ cs2) ∧ OwnU wr w.heap.size vo (idsL pre))) (fun _ vi _ => 2 - (intOf vi).toNat)
  case atStart => exact ⟨0, by omega, rfl, ((Below.refl _ w).alloc (Nat.le_refl _) _).alloc (by simp) _, [], .inl ⟨rfl, rfl⟩, ownU_new w _ (by omega)⟩
  case round =>
    obtain ⟨i, hi, rfl, BW, OW⟩ := hrel
    by_cases hlt : i < 2
    · have hltz : (i : Int) < 2 := by omega
      obtain ⟨pre, hp, ho⟩ := OW.out
      obtain ⟨d, A, n, c, cs, hix, hC, hpre⟩ : ∃ d A n c cs, (∀ W, (Instr.index 111 (.agg #[.int .i64 d1, .slice A1 n1 c1, .int .i64 d2, .slice A2 n2 c2]) (.int .i64 (i : Int))).run Try.prog W = .ok (.agg #[.int .i64 d, .slice A n c]) W) ∧ Hid (CatsAt w w.heap.size A n c cs) ∧ Hid (pre.length + n ≤ n1 + n2 ∧ (i + 1 = 1 ∧ pre ++ cs = cs1 ∨ i + 1 = 2 ∧ pre ++ cs = cs1 ++ cs2)) := by
        have hi2 : i = 0 ∨ i = 1 := by omega
        rcases hi2 with rfl | rfl
        · obtain rfl : pre = [] := by rcases hp with ⟨_, h⟩ | ⟨h, _⟩ | ⟨h, _⟩ <;> first | exact h | omega
          exact ⟨d1, A1, n1, c1, cs1, fun W => by kernel_rfl, H1.out, ⟨by simp, .inl ⟨rfl, rfl⟩⟩⟩
        · obtain rfl : pre = cs1 := by rcases hp with ⟨h, _⟩ | ⟨_, h⟩ | ⟨h, _⟩ <;> first | exact h | omega
          exact ⟨d2, A2, n2, c2, cs2, fun W => by kernel_rfl, H2.out, ⟨by rw [L1.out]; exact Nat.le_refl _, .inr ⟨rfl, rfl⟩⟩⟩
      have HO := hid ho
      have hnb : n ≤ 17592186044416 := by have := hpre.out.1; omega
      clear hp ho OW
      go_wp2_with fail
      obtain ⟨wo, rfl⟩ : ∃ wo : World, wo = wr := ⟨_, rfl⟩
      go_loopw [3, 20] (fun vo vk wk => ∃ k : Nat, k ≤ n ∧ vk = .int .i64 k ∧ Hid (Below w.heap.size w wk) ∧ Hid (OwnU wk w.heap.size vo (idsL (pre ++ cs.take k)))) (fun _ vk _ => n - (intOf vk).toNat)
      case atStart =>
        exact ⟨0, Nat.zero_le _, rfl, BW.out.alloc BW.out.size _, by rw [List.take_zero, List.append_nil]; exact World.ownsRow.alloc HO.out _⟩
      case round =>
        obtain ⟨k, hk, rfl, BK, OK⟩ := hrel
        obtain ⟨wv, rfl⟩ : ∃ wv : World, wv = wr := ⟨_, rfl⟩
        by_cases hkn : k < n
        · have hkz : (k : Int) < (n : Int) := by omega
          obtain ⟨b, off, x, rfl, hbB, hx, c0, c1'⟩ := (hC.out.below BK.out).at_ hkn
          have HSN := hid (idsL_snoc cs k x hx pre)
          have hil := Nat.le_trans (idsL_len (pre ++ cs.take k)) (by rw [List.length_append, List.length_take]; exact Nat.le_refl _)
          generalize idsL (pre ++ cs.take k) = ids at *
          obtain ⟨Ao, m, co, rfl, hN⟩ := NumsAt.of_own OK.out
          have HN := hid hN
          have hml := hN.len
          have hm2 : m + 1 ≤ n1 + n2 := by have := hpre.out.1; omega
          have hm3 : m ≤ 9223372036854775807 := by omega
          have HML := hid hml
          clear hx hN hml hil
          go_wp2_with fail
          go_loopw [8, 9, 27] (fun v8 v9 vj wj => ∃ (j : Nat) (bd : Bool) (nx : List Int), j ≤ m ∧ vj = .int .i64 j ∧ v9 = .bool bd ∧ Hid (insS x.1 (ids.take j) = (nx, bd)) ∧ Hid (Below wv.heap.size wv wj) ∧ Hid (wv.heap.size + 1 ≤ wj.heap.size) ∧ Hid (Blk wj wv.heap.size 32 #[.int .u64 x.1, .int .i64 x.2]) ∧ Hid (OwnU wj (wv.heap.size + 1) v8 nx)) (fun _ _ vj _ => m - (intOf vj).toNat)
          case atStart =>
            refine ⟨0, false, [], Nat.zero_le _, rfl, rfl, rfl, ((Below.refl _ wv).alloc (Nat.le_refl _) _).alloc (by simp) _, (show Hid _ from by show _ ≤ _; simp), (Blk.new wv 32 _).alloc _, ownU_new wv _ (Nat.le_refl _)⟩
          case round =>
            obtain ⟨j, bd, nx, hj, rfl, rfl, IS, BJ, HBJ, XJ, OJ⟩ := hrel
            obtain ⟨wj, rfl⟩ : ∃ wj : World, wj = wr := ⟨_, rfl⟩
            have f0 : wj.cell? ⟨wv.heap.size, 0, none⟩ = some (.int .u64 x.1) := (Blk.cell XJ.out 0).trans rfl
            have hlen := insS_len x.1 (ids.take j)
            rw [IS.out, List.length_take] at hlen
            have hlen2 : nx.length ≤ j + bd.toNat := by have := Nat.min_le_left j ids.length; simp only at hlen; omega
            clear hlen
            by_cases hjm : j < m
            · have hjz : (j : Int) < (m : Int) := by omega
              obtain ⟨ad, y, rfl, had, hy, cy⟩ := (HN.out.below BJ.out).at_ hjm
              have HIS := hid (insS_snoc x.1 ids j y hy)
              clear hy
              cases bd with
              | true =>
                have hlen3 : nx.length ≤ j + 1 := hlen2
                by_cases hyc : y = x.1
                · subst hyc
                  go_wp2_with fail
                  go_roundw
                  case measure => simp [intOf] <;> omega
                  case rel => exact ⟨j + 1, true, nx, by omega, by go_num, rfl, HIS.out.trans (by rw [IS.out]; simp [stepI]), BJ.out, HBJ.out, XJ.out, OJ.out⟩
                · go_wp2_with (at_builtin; refine wpList_append_any _ rfl (.tmp 48) (.tmp 50) _ rfl (wv.heap.size + 1) 24 i0 _ 1 8 Try.underlying88 hi0 hz0 hz1 hz2 rfl (by omega) _ _ _ rfl (World.ownsRow.alloc OJ.out _) _ _ 1 1 [.int .u64 y] rfl (num_new _ _) (by simp [Value.oneCell']) (by (try simp only [List.length_append, List.length_cons, List.length_nil]); unfold maxLen; omega) (by (try simp only [List.length_append, List.length_cons, List.length_nil]); omega) (Nat.le_trans HBJ.out (by simp)) ?_; intro v1 w1 hown hg hat; obtain ⟨p1, p2, p3, p4⟩ := push_after OJ.out BJ.out XJ.out (Nat.lt_succ_self _) (Nat.le_succ _) HBJ.out hown hg; have f1 : w1.cell? ⟨wv.heap.size, 0, none⟩ = some (.int .u64 x.1) := (Blk.cell p3 0).trans rfl; have OJ := hid p1; have BJ := hid p2; have XJ := hid p3; have HBJ := hid p4; clear p1 p2 p3 p4 hown hg hat)
                  go_roundw
                  case measure => simp [intOf] <;> omega
                  case rel => exact ⟨j + 1, true, nx ++ [y], by omega, by go_num, rfl, HIS.out.trans (by rw [IS.out]; simp [stepI, hyc]), BJ.out, HBJ.out, XJ.out, OJ.out⟩
              | false =>
                have hlen3 : nx.length ≤ j := hlen2
                by_cases hge : y ≥ x.1
                · have hf0 : wj.drew.cell? ⟨wv.heap.size, 0, none⟩ = some (.int .u64 x.1) := f0
                  by_cases hyc : y = x.1
                  · subst hyc
                    have hge2 : decide (x.1 ≤ x.1) = true := by simp
                    go_wp2_with (at_builtin; refine wpList_append_any _ rfl (.tmp 39) (.tmp 42) _ rfl (wv.heap.size + 1) 24 i0 _ 1 8 Try.underlying88 hi0 hz0 hz1 hz2 rfl (by omega) _ _ _ rfl (World.ownsRow.alloc OJ.out _) _ _ 1 1 [.int .u64 x.1] rfl (num_new _ _) (by simp [Value.oneCell']) (by (try simp only [List.length_append, List.length_cons, List.length_nil]); unfold maxLen; omega) (by (try simp only [List.length_append, List.length_cons, List.length_nil]); omega) (Nat.le_trans HBJ.out (by simp)) ?_; intro v1 w1 hown hg hat; obtain ⟨p1, p2, p3, p4⟩ := push_after OJ.out BJ.out XJ.out (Nat.lt_succ_self _) (Nat.le_succ _) HBJ.out hown hg; have f1 : w1.cell? ⟨wv.heap.size, 0, none⟩ = some (.int .u64 x.1) := (Blk.cell p3 0).trans rfl; have OJ := hid p1; have BJ := hid p2; have XJ := hid p3; have HBJ := hid p4; clear p1 p2 p3 p4 hown hg hat)
                    go_roundw
                    case measure => simp [intOf] <;> omega
                    case rel => exact ⟨j + 1, true, nx ++ [x.1], by omega, by go_num, rfl, HIS.out.trans (by rw [IS.out]; simp [stepI]), BJ.out, HBJ.out, XJ.out, OJ.out⟩
                  · go_wp2_with (first | (at_builtin; refine wpList_append_any _ rfl (.tmp 39) (.tmp 42) _ rfl (wv.heap.size + 1) 24 i0 _ 1 8 Try.underlying88 hi0 hz0 hz1 hz2 rfl (by omega) _ _ _ rfl (World.ownsRow.alloc OJ.out _) _ _ 1 1 [.int .u64 x.1] rfl (num_new _ _) (by simp [Value.oneCell']) (by (try simp only [List.length_append, List.length_cons, List.length_nil]); unfold maxLen; omega) (by (try simp only [List.length_append, List.length_cons, List.length_nil]); omega) (Nat.le_trans HBJ.out (by simp)) ?_; intro v1 w1 hown hg hat; obtain ⟨p1, p2, p3, p4⟩ := push_after OJ.out BJ.out XJ.out (Nat.lt_succ_self _) (Nat.le_succ _) HBJ.out hown hg; have f1 : w1.cell? ⟨wv.heap.size, 0, none⟩ = some (.int .u64 x.1) := (Blk.cell p3 0).trans rfl; have OJ := hid p1; have BJ := hid p2; have XJ := hid p3; have HBJ := hid p4; clear p1 p2 p3 p4 hown hg hat) | (at_builtin; refine wpList_append_any _ rfl (.tmp 48) (.tmp 50) _ rfl (wv.heap.size + 1) 24 i0 _ 1 8 Try.underlying88 hi0 hz0 hz1 hz2 rfl (by omega) _ _ _ rfl (World.ownsRow.alloc OJ.out _) _ _ 1 1 [.int .u64 y] rfl (num_new _ _) (by simp [Value.oneCell']) (by (try simp only [List.length_append, List.length_cons, List.length_nil]); unfold maxLen; omega) (by (try simp only [List.length_append, List.length_cons, List.length_nil]); omega) (Nat.le_trans HBJ.out (by simp)) ?_; intro v1 w1 hown hg hat; obtain ⟨p1, p2, p3, p4⟩ := push_after OJ.out BJ.out XJ.out (Nat.lt_succ_self _) (Nat.le_succ _) HBJ.out hown hg; have f1 : w1.cell? ⟨wv.heap.size, 0, none⟩ = some (.int .u64 x.1) := (Blk.cell p3 0).trans rfl; have OJ := hid p1; have BJ := hid p2; have XJ := hid p3; have HBJ := hid p4; clear p1 p2 p3 p4 hown hg hat))
                    go_roundw
                    case measure => simp [intOf] <;> omega
                    case rel => exact ⟨j + 1, true, (nx ++ [x.1]) ++ [y], by omega, by go_num, rfl, HIS.out.trans (by rw [IS.out]; simp [stepI, hge, hyc]), BJ.out, HBJ.out, XJ.out, OJ.out⟩
                · have hlt2 : y < x.1 := by omega
                  have hyc : ¬ y = x.1 := by omega
                  go_wp2_with (at_builtin; refine wpList_append_any _ rfl (.tmp 48) (.tmp 50) _ rfl (wv.heap.size + 1) 24 i0 _ 1 8 Try.underlying88 hi0 hz0 hz1 hz2 rfl (by omega) _ _ _ rfl (World.ownsRow.alloc OJ.out _) _ _ 1 1 [.int .u64 y] rfl (num_new _ _) (by simp [Value.oneCell']) (by (try simp only [List.length_append, List.length_cons, List.length_nil]); unfold maxLen; omega) (by (try simp only [List.length_append, List.length_cons, List.length_nil]); omega) (Nat.le_trans HBJ.out (by simp)) ?_; intro v1 w1 hown hg hat; obtain ⟨p1, p2, p3, p4⟩ := push_after OJ.out BJ.out XJ.out (Nat.lt_succ_self _) (Nat.le_succ _) HBJ.out hown hg; have f1 : w1.cell? ⟨wv.heap.size, 0, none⟩ = some (.int .u64 x.1) := (Blk.cell p3 0).trans rfl; have OJ := hid p1; have BJ := hid p2; have XJ := hid p3; have HBJ := hid p4; clear p1 p2 p3 p4 hown hg hat)
                  go_roundw
                  case measure => simp [intOf] <;> omega
                  case rel => exact ⟨j + 1, false, nx ++ [y], by omega, by go_num, rfl, HIS.out.trans (by rw [IS.out]; simp [stepI, hge, hyc]), BJ.out, HBJ.out, XJ.out, OJ.out⟩
            · have hjz : ¬ (j : Int) < (m : Int) := by omega
              have hjm2 : j = m := by omega
              have hIS : insS x.1 ids = (nx, bd) := by
                have := IS.out
                rwa [List.take_of_length_le (by rw [HML.out]; omega)] at this
              have HIS := hid hIS
              have hlen4 : nx.length ≤ m + bd.toNat := by omega
              clear hIS hjm2
              cases bd with
              | true =>
                go_wp2_with fail
                go_roundw
                case measure => simp [intOf] <;> omega
                case rel => exact ⟨k + 1, by omega, by go_num, BK.out.trans (BJ.out.mono BK.out.size), by rw [HSN.out]; show Hid (OwnU _ _ _ (insL x.1 ids)); unfold insL; rw [HIS.out]; exact ownU_base OJ.out (by have := BK.out.size; omega)⟩
              | false =>
                have hlen5 : nx.length ≤ m := hlen4
                go_wp2_with (at_builtin; refine wpList_append_any _ rfl (.tmp 55) (.tmp 58) _ rfl (wv.heap.size + 1) 24 i0 _ 1 8 Try.underlying88 hi0 hz0 hz1 hz2 rfl (by omega) _ _ _ rfl (World.ownsRow.alloc OJ.out _) _ _ 1 1 [.int .u64 x.1] rfl (num_new _ _) (by simp [Value.oneCell']) (by unfold maxLen; omega) (by omega) (Nat.le_trans HBJ.out (by simp)) ?_; intro v1 w1 hown hg hat; obtain ⟨p1, p2, p3, p4⟩ := push_after OJ.out BJ.out XJ.out (Nat.lt_succ_self _) (Nat.le_succ _) HBJ.out hown hg; have OJ := hid p1; have BJ := hid p2; clear p1 p2 p3 p4 hown hg hat)
                go_roundw
                case measure => simp [intOf] <;> omega
                case rel => exact ⟨k + 1, by omega, by go_num, BK.out.trans (BJ.out.mono BK.out.size), by rw [HSN.out]; show Hid (OwnU _ _ _ (insL x.1 ids)); unfold insL; rw [HIS.out]; exact ownU_base OJ.out (by have := BK.out.size; omega)⟩
        · have hkz : ¬ (k : Int) < (n : Int) := by omega
          have hkn2 : k = n := by omega
          have HO2 : Hid (OwnU wv w.heap.size u3 (idsL (pre ++ cs))) := by
            have := OK.out
            rwa [List.take_of_length_le (by rw [hC.out.len]; omega)] at this
          clear hkn2 OK
          go_wp2_with fail
          go_roundw
          case measure => simp [intOf] <;> omega
          case rel =>
            rcases hpre.out.2 with ⟨e1, e2⟩ | ⟨e1, e2⟩
            · exact ⟨i + 1, by omega, by go_num, BK.out, cs1, .inr (.inl ⟨e1, rfl⟩), by rw [← e2]; exact HO2.out⟩
            · exact ⟨i + 1, by omega, by go_num, BK.out, cs1 ++ cs2, .inr (.inr ⟨e1, rfl⟩), by rw [← e2]; exact HO2.out⟩
    · have hltz : ¬ (i : Int) < 2 := by omega
      have hi2 : i = 2 := by omega
      obtain ⟨pre, hp, ho⟩ := OW.out
      obtain rfl : pre = cs1 ++ cs2 := by rcases hp with ⟨h, _⟩ | ⟨h, _⟩ | ⟨_, h⟩ <;> first | exact h | omega
      obtain ⟨Ao, m, co, rfl, hN⟩ := NumsAt.of_own ho
      have HOO := hid ho
      clear hi2 hN ho hp OW
      go_wp2_with fail
      go_ret
      exact ⟨_, rfl, HOO.out, BW.out⟩
end Go.Proofs.Ytndohmimcbmhdaa
