/- A step of an auction: the program. -/
import Derived.Test.YtjnbcippipookaaAuW
import Derived.Deep.RegionHeld3
namespace Go.Proofs.Ytjnbcippipookaa
set_option linter.unusedVariables false
set_option linter.unusedSimpArgs false
open Go.RowKit

theorem box_at {w W : World} {cs : Array Value} {t : TypeId} (h : Below (w.heap.size + 1) (w.alloc (.cells cs t)) W) (j : Nat) (v : Value) (hv : cs[j]? = some v) : W.cell? ⟨w.heap.size, j, none⟩ = some v := by
  refine (h.cell (p := ⟨w.heap.size, j, none⟩) (by simp)).trans ?_
  rw [World.cell?_alloc_at _ _ _ _ rfl]; exact hv
theorem box_lt {w W : World} {o : Obj} (h : Below (w.heap.size + 1) (w.alloc o) W) : w.heap.size < W.heap.size := by
  have := h.size
  simp only [World.size_alloc] at this
  omega
theorem box_below {w W : World} {o : Obj} (h : Below (w.heap.size + 1) (w.alloc o) W) : Below w.heap.size w W := ((Below.refl w.heap.size w).alloc (Nat.le_refl _) o).trans (h.mono (Nat.le_succ _))
theorem cells5_puA (xs : List R5) (i v : Int) : cells5 (puA xs i v) = (cells5 xs).take (posA xs i * 5) ++ ((⟨i, v, 0, 0, 0⟩ : R5).cells ++ (cells5 xs).drop (posA xs i * 5)) := by
  rw [puA, cells5_append, cells5_cons, cells5_take, cells5_drop]
theorem cells5_erase {xs : List R5} {k : Nat} : cells5 (xs.eraseIdx k) = (cells5 xs).take (k * 5) ++ (cells5 xs).drop ((k + 1) * 5) := by
  rw [List.eraseIdx_eq_take_drop_succ, cells5_append, cells5_take, cells5_drop]
theorem step_store_mid {P : Program} {ops : Array Oper} {op : Oper} {a : Act} {w : World} {K : Act → World → Prop} {Q : Exit → Act → World → Prop} {E : Prop} (hgd : op.guard = none) (ty : TypeId) (x y : Operand) (ho : op.op = .store ty x y)
    (b o : Nat) (cells : Array Value) (hx : a.eval x = .pointer (some ⟨b, o, none⟩)) (hy : a.eval y = .agg cells)
    (ht : w.there b o cells.size) (hi : (P.info? ty).map (·.size) = some cells.size) (h1 : cells.all (·.oneCell') = true)
    (h : K (a.put op.dst undef) (w.setCells b o cells.toList)) : if Region.wanted op (yielded ops a.tmps) = true then Oper.wp P op a w K Q else E := by
  have hw : Region.wanted op (yielded ops a.tmps) = true := by simp [Region.wanted, hgd]
  rw [if_pos hw]
  exact wp_store_mid ty x y ho b o cells hx hy ht hi h1 h
theorem delSale_at (base n k g cap : Nat) (cs : List Value) (w : World) (ho : w.ownsRow base 36 5 (.slice (some ⟨g, 0, none⟩) n cap) n cs) (hk : k < n) (h1c : ∀ u ∈ cs, u.oneCell' = true) (hn : n ≤ 1048576) :
    Calls Try.prog 39 #[.slice (some ⟨g, 0, none⟩) n cap, .int .i64 k, .int .i64 ((k : Int) + 1)] w (RetIns base 36 5 (n - 1) (cs.take (k * 5) ++ cs.drop ((k + 1) * 5)) (some g) w) := by
  obtain ⟨m, rfl⟩ : ∃ m, n = m + 1 := ⟨n - 1, by omega⟩
  have := delSaleLot_any base m k (k + 1) g cap cs w ho (by omega) rfl h1c (by omega)
  rw [show (((k + 1 : Nat)) : Int) = (k : Int) + 1 by omega] at this
  exact this

set_option maxRecDepth 20000 in
set_option maxHeartbeats 4000000 in
theorem stepAuction1 (A : Option Addr) (n c : Nat) (xs : List R5) (i b v : Int) (w : World) (hn : xs.length = n) (hA : Rd w A (cells5 xs)) (hv : auc xs = true) (hs : stepB 1 i b v = true) :
    Calls Try.prog 20 #[.slice A n c, .agg #[.int .i64 1, .int .i64 i, .int .i64 b, .int .i64 v]] w (RetOwnB 36 5 (stL xs 1 i b v).length (cells5 (stL xs 1 i b v)) (stB xs 1 i b v) w) := by
  have n8 : n ≤ 8 := by have := auc_len hv; omega
  have CC := Lib.hid (fun w h => cloneSaleLot_any A n c (cells5 xs) w (by rw [length_cells5, hn]) h (oneCell_cells5 xs) (by omega))
  have CB := Lib.hid (fun w h => binSale_any A n c xs i w hn h hv)
  have CI := Lib.hid (fun A2 n2 c2 xs2 w2 h1 h2 h3 => isAuction_any A2 n2 c2 xs2 w2 h1 h2 h3)
  have HA := Lib.hid hA
  have HN := Lib.hid hn
  have HV := Lib.hid hv
  have HL : Hid ((cells5 xs).length = n * 5) := Lib.hid (by rw [length_cells5, hn])
  clear hA
  rcases find_cases hv i with ⟨hi, hh⟩ | ⟨j, x, hi, hp, hh, hj, hx, ha⟩
  · have hpl := posA_le xs i
    rw [hn] at hpl
    rw [hh] at CB
    have HP := Lib.hid (cells5_puA xs i v)
    have HPL := Lib.hid (puA_len xs i v)
    obtain ⟨p, hp⟩ : ∃ p, p = posA xs i := ⟨_, rfl⟩
    rw [← hp] at CB HP hpl
    have CJ := Lib.hid (fun A2 c2 w2 h => isAuction_any A2 (n + 1) c2 (puA xs i v) w2 (by rw [puA_len, hn]) h (by omega))
    have HST := Lib.hid (stO_1 xs i b v)
    have hi0 : idxV (atA i) xs < 0 := by omega
    have HI0 := Lib.hid hi0
    clear hp hi hh hi0 hs
    cases hz : auc (puA xs i v) with
    | false =>
      rw [hz] at CJ
      obtain ⟨e1, e2⟩ := st_no (HST.out.trans (if_neg (fun h => by have := h.2; rw [hz] at this; cases this)))
      rw [e1, e2]
      clear e1 e2
      clear hz
      clear hn
      go_enter Try.func20, Try.ntmps20
      go_wp2_with fail
      refine (CC.out _ (HA.out.alloc _)).mono ?_
      rintro e w1 ⟨v1, rfl, o1, b1⟩
      have HB1 : Hid (Below (w.heap.size + 1) (w.alloc (.cells #[.int .i64 1, .int .i64 i, .int .i64 b, .int .i64 v] 26)) w1) := Lib.hid ((Below.refl _ _).trans (b1.mono (by simp)))
      have HO1 := Lib.hid (own_mono (base' := w.heap.size + 1) o1 (by simp))
      clear o1 b1
      have y0 := box_at HB1.out 0 _ rfl
      have y1 := box_at HB1.out 1 _ rfl
      have y2 := box_at HB1.out 2 _ rfl
      have y3 := box_at HB1.out 3 _ rfl
      have hy := box_lt HB1.out
      go_wp2_with fail
      refine (CB.out _ (HA.out.below (box_below HB1.out))).mono ?_
      rintro e w2 ⟨rfl, b2⟩
      have HB2 := Lib.hid (HB1.out.trans (b2.mono (by omega)))
      have HO2 := Lib.hid (own_below HO1.out b2)
      clear y0 y1 y2 y3 hy
      clear b2
      have y0 := box_at HB2.out 0 _ rfl
      have y1 := box_at HB2.out 1 _ rfl
      have y2 := box_at HB2.out 2 _ rfl
      have y3 := box_at HB2.out 3 _ rfl
      have hy := box_lt HB2.out
      have hs2 : w.heap.size + 1 ≤ w2.heap.size := by omega
      have HCI := Lib.hid (insSaleLot_any (w.heap.size + 1) n p w2.heap.size v1 (cells5 xs) [.int .i64 i, .int .i64 v, .int .i64 0, .int .i64 0, .int .i64 0] (w2.alloc (.cells #[.int .i64 i, .int .i64 v, .int .i64 0, .int .i64 0, .int .i64 0] 36)) (HO2.out.alloc _) (by simp; omega) hpl (oneCell_cells5 xs) (heap_alloc_new _ _) rfl (fun u hu => oneCell_x (⟨i, v, 0, 0, 0⟩ : R5) u hu) (fun e => by have := (HO2.out.lt _ e).2; omega) (by omega))
      go_wp2_with fail
      refine HCI.out.mono ?_
      rintro e w3 ⟨v3, rfl, o3, g3⟩
      have B3 : Below (w.heap.size + 1) (w.alloc (.cells #[.int .i64 1, .int .i64 i, .int .i64 b, .int .i64 v] 26)) w3 := (HB2.out.alloc (by omega) _).grown g3 (by simp; omega) (fun q hq => (HO2.out.lt _ hq).1)
      have HB3 := Lib.hid B3
      rw [show (cells5 xs).take (p * 5) ++ ([.int .i64 i, .int .i64 v, .int .i64 0, .int .i64 0, .int .i64 0] ++ (cells5 xs).drop (p * 5)) = cells5 (puA xs i v) from HP.out.symm] at o3
      obtain ⟨A3, c3, rfl⟩ := own_form o3
      have HO3 := Lib.hid o3
      clear y0 y1 y2 y3 hy
      clear o3 g3 B3
      have y0 := box_at HB3.out 0 _ rfl
      have y1 := box_at HB3.out 1 _ rfl
      have y2 := box_at HB3.out 2 _ rfl
      have y3 := box_at HB3.out 3 _ rfl
      have hy := box_lt HB3.out
      go_wp2_with fail
      refine (CJ.out _ _ _ (Rd.of_own HO3.out)).mono ?_
      rintro e w4 ⟨rfl, b4⟩
      have HB4 := Lib.hid (HB3.out.trans (b4.mono (by omega)))
      have HO4 := Lib.hid (own_mono (base' := w.heap.size) (own_below HO3.out b4) (by omega))
      go_wp2
      go_ret2
      exact ⟨_, rfl, World.ownsRow_nil _ _ _ _, box_below HB4.out⟩
    | true =>
      rw [hz] at CJ
      obtain ⟨e1, e2⟩ := st_yes (HST.out.trans (if_pos ⟨HI0.out, hz⟩))
      rw [e1, e2]
      clear e1 e2
      clear hz
      clear hn
      go_enter Try.func20, Try.ntmps20
      go_wp2_with fail
      refine (CC.out _ (HA.out.alloc _)).mono ?_
      rintro e w1 ⟨v1, rfl, o1, b1⟩
      have HB1 : Hid (Below (w.heap.size + 1) (w.alloc (.cells #[.int .i64 1, .int .i64 i, .int .i64 b, .int .i64 v] 26)) w1) := Lib.hid ((Below.refl _ _).trans (b1.mono (by simp)))
      have HO1 := Lib.hid (own_mono (base' := w.heap.size + 1) o1 (by simp))
      clear o1 b1
      have y0 := box_at HB1.out 0 _ rfl
      have y1 := box_at HB1.out 1 _ rfl
      have y2 := box_at HB1.out 2 _ rfl
      have y3 := box_at HB1.out 3 _ rfl
      have hy := box_lt HB1.out
      go_wp2_with fail
      refine (CB.out _ (HA.out.below (box_below HB1.out))).mono ?_
      rintro e w2 ⟨rfl, b2⟩
      have HB2 := Lib.hid (HB1.out.trans (b2.mono (by omega)))
      have HO2 := Lib.hid (own_below HO1.out b2)
      clear y0 y1 y2 y3 hy
      clear b2
      have y0 := box_at HB2.out 0 _ rfl
      have y1 := box_at HB2.out 1 _ rfl
      have y2 := box_at HB2.out 2 _ rfl
      have y3 := box_at HB2.out 3 _ rfl
      have hy := box_lt HB2.out
      have hs2 : w.heap.size + 1 ≤ w2.heap.size := by omega
      have HCI := Lib.hid (insSaleLot_any (w.heap.size + 1) n p w2.heap.size v1 (cells5 xs) [.int .i64 i, .int .i64 v, .int .i64 0, .int .i64 0, .int .i64 0] (w2.alloc (.cells #[.int .i64 i, .int .i64 v, .int .i64 0, .int .i64 0, .int .i64 0] 36)) (HO2.out.alloc _) (by simp; omega) hpl (oneCell_cells5 xs) (heap_alloc_new _ _) rfl (fun u hu => oneCell_x (⟨i, v, 0, 0, 0⟩ : R5) u hu) (fun e => by have := (HO2.out.lt _ e).2; omega) (by omega))
      go_wp2_with fail
      refine HCI.out.mono ?_
      rintro e w3 ⟨v3, rfl, o3, g3⟩
      have B3 : Below (w.heap.size + 1) (w.alloc (.cells #[.int .i64 1, .int .i64 i, .int .i64 b, .int .i64 v] 26)) w3 := (HB2.out.alloc (by omega) _).grown g3 (by simp; omega) (fun q hq => (HO2.out.lt _ hq).1)
      have HB3 := Lib.hid B3
      rw [show (cells5 xs).take (p * 5) ++ ([.int .i64 i, .int .i64 v, .int .i64 0, .int .i64 0, .int .i64 0] ++ (cells5 xs).drop (p * 5)) = cells5 (puA xs i v) from HP.out.symm] at o3
      obtain ⟨A3, c3, rfl⟩ := own_form o3
      have HO3 := Lib.hid o3
      clear y0 y1 y2 y3 hy
      clear o3 g3 B3
      have y0 := box_at HB3.out 0 _ rfl
      have y1 := box_at HB3.out 1 _ rfl
      have y2 := box_at HB3.out 2 _ rfl
      have y3 := box_at HB3.out 3 _ rfl
      have hy := box_lt HB3.out
      go_wp2_with fail
      refine (CJ.out _ _ _ (Rd.of_own HO3.out)).mono ?_
      rintro e w4 ⟨rfl, b4⟩
      have HB4 := Lib.hid (HB3.out.trans (b4.mono (by omega)))
      have HO4 := Lib.hid (own_mono (base' := w.heap.size) (own_below HO3.out b4) (by omega))
      go_wp2
      go_ret2
      refine ⟨_, rfl, ?_, box_below HB4.out⟩
      rw [HPL.out, HN.out]
      exact HO4.out
  · rw [hp, hh] at CB
    have HST := Lib.hid (stO_1 xs i b v)
    obtain ⟨e1, e2⟩ := st_no (HST.out.trans (if_neg (fun h => by have := h.1; omega)))
    rw [e1, e2]
    clear e1 e2
    clear hp hi hh hs hx ha hj hn
    go_enter Try.func20, Try.ntmps20
    go_wp2_with fail
    refine (CC.out _ (HA.out.alloc _)).mono ?_
    rintro e w1 ⟨v1, rfl, o1, b1⟩
    have HB1 : Hid (Below (w.heap.size + 1) (w.alloc (.cells #[.int .i64 1, .int .i64 i, .int .i64 b, .int .i64 v] 26)) w1) := Lib.hid ((Below.refl _ _).trans (b1.mono (by simp)))
    have HO1 := Lib.hid (own_mono (base' := w.heap.size + 1) o1 (by simp))
    clear o1 b1
    have y0 := box_at HB1.out 0 _ rfl
    have y1 := box_at HB1.out 1 _ rfl
    have y2 := box_at HB1.out 2 _ rfl
    have y3 := box_at HB1.out 3 _ rfl
    have hy := box_lt HB1.out
    go_wp2_with fail
    refine (CB.out _ (HA.out.below (box_below HB1.out))).mono ?_
    rintro e w2 ⟨rfl, b2⟩
    have HB2 := Lib.hid (HB1.out.trans (b2.mono (by omega)))
    have HO2 := Lib.hid (own_below HO1.out b2)
    clear y0 y1 y2 y3 hy
    clear b2
    have y0 := box_at HB2.out 0 _ rfl
    have y1 := box_at HB2.out 1 _ rfl
    have y2 := box_at HB2.out 2 _ rfl
    have y3 := box_at HB2.out 3 _ rfl
    have hy := box_lt HB2.out
    go_wp2
    go_ret2
    exact ⟨_, rfl, World.ownsRow_nil _ _ _ _, box_below HB2.out⟩

set_option maxRecDepth 20000 in
set_option maxHeartbeats 4000000 in
theorem stepAuction2 (A : Option Addr) (n c : Nat) (xs : List R5) (i b v : Int) (w : World) (hn : xs.length = n) (hA : Rd w A (cells5 xs)) (hv : auc xs = true) (hs : stepB 2 i b v = true) :
    Calls Try.prog 20 #[.slice A n c, .agg #[.int .i64 2, .int .i64 i, .int .i64 b, .int .i64 v]] w (RetOwnB 36 5 (stL xs 2 i b v).length (cells5 (stL xs 2 i b v)) (stB xs 2 i b v) w) := by
  have n8 : n ≤ 8 := by have := auc_len hv; omega
  have CC := Lib.hid (fun w h => cloneSaleLot_any A n c (cells5 xs) w (by rw [length_cells5, hn]) h (oneCell_cells5 xs) (by omega))
  have CB := Lib.hid (fun w h => binSale_any A n c xs i w hn h hv)
  have CI := Lib.hid (fun A2 n2 c2 xs2 w2 h1 h2 h3 => isAuction_any A2 n2 c2 xs2 w2 h1 h2 h3)
  have HA := Lib.hid hA
  have HN := Lib.hid hn
  have HV := Lib.hid hv
  have HL : Hid ((cells5 xs).length = n * 5) := Lib.hid (by rw [length_cells5, hn])
  clear hA
  rcases find_cases hv i with ⟨hi, hh⟩ | ⟨j, x, hi, hp, hh, hj, hx, ha⟩
  · rw [hh] at CB
    obtain ⟨e1, e2⟩ := st_no (stO_236n b v (.inl rfl) hi)
    rw [e1, e2]
    clear e1 e2
    clear hi hh hs hn
    go_enter Try.func20, Try.ntmps20
    go_wp2_with fail
    refine (CC.out _ (HA.out.alloc _)).mono ?_
    rintro e w1 ⟨v1, rfl, o1, b1⟩
    have HB1 : Hid (Below (w.heap.size + 1) (w.alloc (.cells #[.int .i64 2, .int .i64 i, .int .i64 b, .int .i64 v] 26)) w1) := Lib.hid ((Below.refl _ _).trans (b1.mono (by simp)))
    have HO1 := Lib.hid (own_mono (base' := w.heap.size + 1) o1 (by simp))
    clear o1 b1
    have y0 := box_at HB1.out 0 _ rfl
    have y1 := box_at HB1.out 1 _ rfl
    have y2 := box_at HB1.out 2 _ rfl
    have y3 := box_at HB1.out 3 _ rfl
    have hy := box_lt HB1.out
    go_wp2_with fail
    refine (CB.out _ (HA.out.below (box_below HB1.out))).mono ?_
    rintro e w2 ⟨rfl, b2⟩
    have HB2 := Lib.hid (HB1.out.trans (b2.mono (by omega)))
    have HO2 := Lib.hid (own_below HO1.out b2)
    clear y0 y1 y2 y3 hy
    clear b2
    have y0 := box_at HB2.out 0 _ rfl
    have y1 := box_at HB2.out 1 _ rfl
    have y2 := box_at HB2.out 2 _ rfl
    have y3 := box_at HB2.out 3 _ rfl
    have hy := box_lt HB2.out
    go_wp2
    go_ret2
    exact ⟨_, rfl, World.ownsRow_nil _ _ _ _, box_below HB2.out⟩
  · rw [hp, hh] at CB
    obtain ⟨g, o, hAe, hg0, -, -, -, -, -⟩ := HA.out.at5 hx
    subst hAe
    have HX := Lib.hid hx
    have hj5 : j < n := by omega
    have HST := Lib.hid (stO_2 b v hi hx)
    have hw1 : IntKind.i64.wrap ((j : Int) + 1) = (j : Int) + 1 := IntWalk.i64_in _ (by omega)
    have CJ := Lib.hid (fun A2 c2 w2 h => isAuction_any A2 (n - 1) c2 (xs.eraseIdx j) w2 (by rw [List.length_eraseIdx_of_lt hj, hn]) h (by omega))
    rw [auc_erase hv] at CJ
    have HPL := Lib.hid (show (xs.eraseIdx j).length = n - 1 by rw [List.length_eraseIdx_of_lt hj, hn])
    clear hp hi hh hs ha hv
    by_cases hc : x.c = 0
    · have hcd : (x.c == 0) = true := by simp [hc]
      obtain ⟨e1, e2⟩ := st_yes (HST.out.trans (if_pos hc))
      rw [e1, e2]
      clear e1 e2
      clear hc hx hj hn
      go_enter Try.func20, Try.ntmps20
      go_wp2_with fail
      refine (CC.out _ (HA.out.alloc _)).mono ?_
      rintro e w1 ⟨v1, rfl, o1, b1⟩
      have HB1 : Hid (Below (w.heap.size + 1) (w.alloc (.cells #[.int .i64 2, .int .i64 i, .int .i64 b, .int .i64 v] 26)) w1) := Lib.hid ((Below.refl _ _).trans (b1.mono (by simp)))
      have o1' := own_mono (base' := w.heap.size + 1) o1 (by simp)
      obtain ⟨g1, cap1, rfl, hg1, hg1'⟩ := own_some o1' (by omega)
      have HO1 := Lib.hid o1'
      clear o1 o1' b1
      have y0 := box_at HB1.out 0 _ rfl
      have y1 := box_at HB1.out 1 _ rfl
      have y2 := box_at HB1.out 2 _ rfl
      have y3 := box_at HB1.out 3 _ rfl
      have hy := box_lt HB1.out
      go_wp2_with fail
      refine (CB.out _ (HA.out.below (box_below HB1.out))).mono ?_
      rintro e w2 ⟨rfl, b2⟩
      have HB2 := Lib.hid (HB1.out.trans (b2.mono (by omega)))
      have HO2 := Lib.hid (own_below HO1.out b2)
      clear y0 y1 y2 y3 hy
      clear b2
      have y0 := box_at HB2.out 0 _ rfl
      have y1 := box_at HB2.out 1 _ rfl
      have y2 := box_at HB2.out 2 _ rfl
      have y3 := box_at HB2.out 3 _ rfl
      have hy := box_lt HB2.out
      have hne : ¬ g = g1 := by omega
      have hne2 : ¬ g1 = g := by omega
      have hgw : g1 < w2.heap.size := (HO2.out.lt _ rfl).2
      have hbx : ¬ w.heap.size = g1 := by omega
      have hbx2 : ¬ g1 = w.heap.size := by omega
      obtain ⟨g', o', hAe, hg, c0, c1, c2, c3, c4⟩ := (HA.out.below (box_below HB2.out)).at5 HX.out
      injection hAe with hAe
      injection hAe with q1 q2
      subst q1; subst q2
      go_wp2_with fail
      refine (delSale_at (w.heap.size + 1) n j g1 cap1 (cells5 xs) _ HO2.out hj5 (oneCell_cells5 xs) (by omega)).mono ?_
      rintro e w3 ⟨v3, rfl, o3, g3⟩
      have HB3 := Lib.hid (HB2.out.grown g3 (by omega) (fun q hq => by injection hq with hq; omega))
      rw [← cells5_erase] at o3
      obtain ⟨A3, c3', rfl⟩ := own_form o3
      have HO3 := Lib.hid o3
      clear y0 y1 y2 y3 hy
      clear o3 g3 c0 c1 c2 c3 c4
      have y0 := box_at HB3.out 0 _ rfl
      have y1 := box_at HB3.out 1 _ rfl
      have y2 := box_at HB3.out 2 _ rfl
      have y3 := box_at HB3.out 3 _ rfl
      have hy := box_lt HB3.out
      go_wp2_with fail
      refine (CJ.out _ _ _ (Rd.of_own HO3.out)).mono ?_
      rintro e w4 ⟨rfl, b4⟩
      have HB4 := Lib.hid (HB3.out.trans (b4.mono (by omega)))
      have HO4 := Lib.hid (own_mono (base' := w.heap.size) (own_below HO3.out b4) (by omega))
      go_wp2
      go_ret2
      refine ⟨_, rfl, ?_, box_below HB4.out⟩
      rw [HPL.out]
      exact HO4.out
    · have hcd : (x.c == 0) = false := by simp [hc]
      obtain ⟨e1, e2⟩ := st_no (HST.out.trans (if_neg hc))
      rw [e1, e2]
      clear e1 e2
      clear hc hx hj hn
      go_enter Try.func20, Try.ntmps20
      go_wp2_with fail
      refine (CC.out _ (HA.out.alloc _)).mono ?_
      rintro e w1 ⟨v1, rfl, o1, b1⟩
      have HB1 : Hid (Below (w.heap.size + 1) (w.alloc (.cells #[.int .i64 2, .int .i64 i, .int .i64 b, .int .i64 v] 26)) w1) := Lib.hid ((Below.refl _ _).trans (b1.mono (by simp)))
      have o1' := own_mono (base' := w.heap.size + 1) o1 (by simp)
      obtain ⟨g1, cap1, rfl, hg1, hg1'⟩ := own_some o1' (by omega)
      have HO1 := Lib.hid o1'
      clear o1 o1' b1
      have y0 := box_at HB1.out 0 _ rfl
      have y1 := box_at HB1.out 1 _ rfl
      have y2 := box_at HB1.out 2 _ rfl
      have y3 := box_at HB1.out 3 _ rfl
      have hy := box_lt HB1.out
      go_wp2_with fail
      refine (CB.out _ (HA.out.below (box_below HB1.out))).mono ?_
      rintro e w2 ⟨rfl, b2⟩
      have HB2 := Lib.hid (HB1.out.trans (b2.mono (by omega)))
      have HO2 := Lib.hid (own_below HO1.out b2)
      clear y0 y1 y2 y3 hy
      clear b2
      have y0 := box_at HB2.out 0 _ rfl
      have y1 := box_at HB2.out 1 _ rfl
      have y2 := box_at HB2.out 2 _ rfl
      have y3 := box_at HB2.out 3 _ rfl
      have hy := box_lt HB2.out
      have hne : ¬ g = g1 := by omega
      have hne2 : ¬ g1 = g := by omega
      have hgw : g1 < w2.heap.size := (HO2.out.lt _ rfl).2
      have hbx : ¬ w.heap.size = g1 := by omega
      have hbx2 : ¬ g1 = w.heap.size := by omega
      obtain ⟨g', o', hAe, hg, c0, c1, c2, c3, c4⟩ := (HA.out.below (box_below HB2.out)).at5 HX.out
      injection hAe with hAe
      injection hAe with q1 q2
      subst q1; subst q2
      go_wp2_with fail
      refine (delSale_at (w.heap.size + 1) n j g1 cap1 (cells5 xs) _ HO2.out hj5 (oneCell_cells5 xs) (by omega)).mono ?_
      rintro e w3 ⟨v3, rfl, o3, g3⟩
      have HB3 := Lib.hid (HB2.out.grown g3 (by omega) (fun q hq => by injection hq with hq; omega))
      rw [← cells5_erase] at o3
      obtain ⟨A3, c3', rfl⟩ := own_form o3
      have HO3 := Lib.hid o3
      clear y0 y1 y2 y3 hy
      clear o3 g3 c0 c1 c2 c3 c4
      have y0 := box_at HB3.out 0 _ rfl
      have y1 := box_at HB3.out 1 _ rfl
      have y2 := box_at HB3.out 2 _ rfl
      have y3 := box_at HB3.out 3 _ rfl
      have hy := box_lt HB3.out
      go_wp2
      go_ret2
      exact ⟨_, rfl, World.ownsRow_nil _ _ _ _, box_below HB3.out⟩

set_option maxRecDepth 20000 in
set_option maxHeartbeats 4000000 in
theorem stepAuction3 (A : Option Addr) (n c : Nat) (xs : List R5) (i b v : Int) (w : World) (hn : xs.length = n) (hA : Rd w A (cells5 xs)) (hv : auc xs = true) (hs : stepB 3 i b v = true) :
    Calls Try.prog 20 #[.slice A n c, .agg #[.int .i64 3, .int .i64 i, .int .i64 b, .int .i64 v]] w (RetOwnB 36 5 (stL xs 3 i b v).length (cells5 (stL xs 3 i b v)) (stB xs 3 i b v) w) := by
  have n8 : n ≤ 8 := by have := auc_len hv; omega
  have CC := Lib.hid (fun w h => cloneSaleLot_any A n c (cells5 xs) w (by rw [length_cells5, hn]) h (oneCell_cells5 xs) (by omega))
  have CB := Lib.hid (fun w h => binSale_any A n c xs i w hn h hv)
  have CI := Lib.hid (fun A2 n2 c2 xs2 w2 h1 h2 h3 => isAuction_any A2 n2 c2 xs2 w2 h1 h2 h3)
  have HA := Lib.hid hA
  have HN := Lib.hid hn
  have HV := Lib.hid hv
  have HL : Hid ((cells5 xs).length = n * 5) := Lib.hid (by rw [length_cells5, hn])
  clear hA
  rcases find_cases hv i with ⟨hi, hh⟩ | ⟨j, x, hi, hp, hh, hj, hx, ha⟩
  · rw [hh] at CB
    obtain ⟨e1, e2⟩ := st_no (stO_236n b v (.inr (.inl rfl)) hi)
    rw [e1, e2]
    clear e1 e2
    clear hi hh hs hn
    go_enter Try.func20, Try.ntmps20
    go_wp2_with fail
    refine (CC.out _ (HA.out.alloc _)).mono ?_
    rintro e w1 ⟨v1, rfl, o1, b1⟩
    have HB1 : Hid (Below (w.heap.size + 1) (w.alloc (.cells #[.int .i64 3, .int .i64 i, .int .i64 b, .int .i64 v] 26)) w1) := Lib.hid ((Below.refl _ _).trans (b1.mono (by simp)))
    have HO1 := Lib.hid (own_mono (base' := w.heap.size + 1) o1 (by simp))
    clear o1 b1
    have y0 := box_at HB1.out 0 _ rfl
    have y1 := box_at HB1.out 1 _ rfl
    have y2 := box_at HB1.out 2 _ rfl
    have y3 := box_at HB1.out 3 _ rfl
    have hy := box_lt HB1.out
    go_wp2_with fail
    refine (CB.out _ (HA.out.below (box_below HB1.out))).mono ?_
    rintro e w2 ⟨rfl, b2⟩
    have HB2 := Lib.hid (HB1.out.trans (b2.mono (by omega)))
    have HO2 := Lib.hid (own_below HO1.out b2)
    clear y0 y1 y2 y3 hy
    clear b2
    have y0 := box_at HB2.out 0 _ rfl
    have y1 := box_at HB2.out 1 _ rfl
    have y2 := box_at HB2.out 2 _ rfl
    have y3 := box_at HB2.out 3 _ rfl
    have hy := box_lt HB2.out
    go_wp2
    go_ret2
    exact ⟨_, rfl, World.ownsRow_nil _ _ _ _, box_below HB2.out⟩
  · rw [hp, hh] at CB
    obtain ⟨g, o, hAe, hg0, -, -, -, -, -⟩ := HA.out.at5 hx
    subst hAe
    have HX := Lib.hid hx
    have hj5 : j < n := by omega
    have HST := Lib.hid (stO_3 b v hi hx)
    have CJ := Lib.hid (fun A2 c2 w2 h => isAuction_any A2 n c2 (xs.set j { x with c := 1 }) w2 (by rw [List.length_set, hn]) h (by omega))
    have HPL := Lib.hid (show (xs.set j { x with c := 1 }).length = n by rw [List.length_set, hn])
    have HSET := Lib.hid (setF_cells5 (q := 2) (v := .int .i64 1) (y := { x with c := 1 }) hx (by omega) rfl)
    clear hp hi hh hs ha
    by_cases hc : x.c = 0
    · have hcd : (x.c == 0) = true := by simp [hc]
      rw [open_auc hv hx hc] at CJ
      by_cases hz : idxV isOpen xs < 0
      · rw [decide_eq_true hz] at CJ
        obtain ⟨e1, e2⟩ := st_yes (HST.out.trans (if_pos ⟨hc, hz⟩))
        rw [e1, e2]
        clear e1 e2
        clear hc hx hj hn hz hv
        go_enter Try.func20, Try.ntmps20
        go_wp2_with fail
        refine (CC.out _ (HA.out.alloc _)).mono ?_
        rintro e w1 ⟨v1, rfl, o1, b1⟩
        have HB1 : Hid (Below (w.heap.size + 1) (w.alloc (.cells #[.int .i64 3, .int .i64 i, .int .i64 b, .int .i64 v] 26)) w1) := Lib.hid ((Below.refl _ _).trans (b1.mono (by simp)))
        have o1' := own_mono (base' := w.heap.size + 1) o1 (by simp)
        obtain ⟨g1, cap1, rfl, hg1, hg1'⟩ := own_some o1' (by omega)
        have HO1 := Lib.hid o1'
        clear o1 o1' b1
        have y0 := box_at HB1.out 0 _ rfl
        have y1 := box_at HB1.out 1 _ rfl
        have y2 := box_at HB1.out 2 _ rfl
        have y3 := box_at HB1.out 3 _ rfl
        have hy := box_lt HB1.out
        go_wp2_with fail
        refine (CB.out _ (HA.out.below (box_below HB1.out))).mono ?_
        rintro e w2 ⟨rfl, b2⟩
        have HB2 := Lib.hid (HB1.out.trans (b2.mono (by omega)))
        have HO2 := Lib.hid (own_below HO1.out b2)
        clear y0 y1 y2 y3 hy
        clear b2
        have y0 := box_at HB2.out 0 _ rfl
        have y1 := box_at HB2.out 1 _ rfl
        have y2 := box_at HB2.out 2 _ rfl
        have y3 := box_at HB2.out 3 _ rfl
        have hy := box_lt HB2.out
        have hne : ¬ g = g1 := by omega
        have hne2 : ¬ g1 = g := by omega
        have hgw : g1 < w2.heap.size := (HO2.out.lt _ rfl).2
        have hbx : ¬ w.heap.size = g1 := by omega
        have hbx2 : ¬ g1 = w.heap.size := by omega
        obtain ⟨g', o', hAe, hg, c0, c1, c2, c3, c4⟩ := (HA.out.below (box_below HB2.out)).at5 HX.out
        injection hAe with hAe
        injection hAe with q1 q2
        subst q1; subst q2
        have hth := own_there HO2.out (j * 5 + 2) 1 (by omega)
        obtain ⟨⟨ud0, d0⟩, f0⟩ := (hth 0 (by omega)).imp_left Option.isSome_iff_exists.1
        simp only [Nat.add_zero] at d0 f0
        clear hth
        have HS := Lib.hid (HO2.out.stored (j * 5 + 2) (.int .i64 1))
        have HB3 : Hid (Below (w.heap.size + 1) (w.alloc (.cells #[.int .i64 3, .int .i64 i, .int .i64 b, .int .i64 v] 26)) (w2.setCell ⟨g1, j * 5 + 2, none⟩ (.int .i64 1))) := Lib.hid (HB2.out.setCell (by show w.heap.size + 1 ≤ g1; omega) _)
        go_wp2_with fail
        have o3 := HS.out.1
        rw [HSET.out] at o3
        have HO3 := Lib.hid o3
        clear o3
        refine (CJ.out _ _ _ (Rd.of_own HO3.out)).mono ?_
        rintro e w4 ⟨rfl, b4⟩
        have HB4 := Lib.hid (HB3.out.trans (b4.mono (by have := box_lt HB3.out; omega)))
        have HO4 := Lib.hid (own_mono (base' := w.heap.size) (own_below HO3.out b4) (by omega))
        go_wp2
        go_ret2
        refine ⟨_, rfl, ?_, box_below HB4.out⟩
        rw [HPL.out]
        exact HO4.out
      · rw [decide_eq_false hz] at CJ
        obtain ⟨e1, e2⟩ := st_no (HST.out.trans (if_neg (fun h => hz h.2)))
        rw [e1, e2]
        clear e1 e2
        clear hc hx hj hn hz hv
        go_enter Try.func20, Try.ntmps20
        go_wp2_with fail
        refine (CC.out _ (HA.out.alloc _)).mono ?_
        rintro e w1 ⟨v1, rfl, o1, b1⟩
        have HB1 : Hid (Below (w.heap.size + 1) (w.alloc (.cells #[.int .i64 3, .int .i64 i, .int .i64 b, .int .i64 v] 26)) w1) := Lib.hid ((Below.refl _ _).trans (b1.mono (by simp)))
        have o1' := own_mono (base' := w.heap.size + 1) o1 (by simp)
        obtain ⟨g1, cap1, rfl, hg1, hg1'⟩ := own_some o1' (by omega)
        have HO1 := Lib.hid o1'
        clear o1 o1' b1
        have y0 := box_at HB1.out 0 _ rfl
        have y1 := box_at HB1.out 1 _ rfl
        have y2 := box_at HB1.out 2 _ rfl
        have y3 := box_at HB1.out 3 _ rfl
        have hy := box_lt HB1.out
        go_wp2_with fail
        refine (CB.out _ (HA.out.below (box_below HB1.out))).mono ?_
        rintro e w2 ⟨rfl, b2⟩
        have HB2 := Lib.hid (HB1.out.trans (b2.mono (by omega)))
        have HO2 := Lib.hid (own_below HO1.out b2)
        clear y0 y1 y2 y3 hy
        clear b2
        have y0 := box_at HB2.out 0 _ rfl
        have y1 := box_at HB2.out 1 _ rfl
        have y2 := box_at HB2.out 2 _ rfl
        have y3 := box_at HB2.out 3 _ rfl
        have hy := box_lt HB2.out
        have hne : ¬ g = g1 := by omega
        have hne2 : ¬ g1 = g := by omega
        have hgw : g1 < w2.heap.size := (HO2.out.lt _ rfl).2
        have hbx : ¬ w.heap.size = g1 := by omega
        have hbx2 : ¬ g1 = w.heap.size := by omega
        obtain ⟨g', o', hAe, hg, c0, c1, c2, c3, c4⟩ := (HA.out.below (box_below HB2.out)).at5 HX.out
        injection hAe with hAe
        injection hAe with q1 q2
        subst q1; subst q2
        have hth := own_there HO2.out (j * 5 + 2) 1 (by omega)
        obtain ⟨⟨ud0, d0⟩, f0⟩ := (hth 0 (by omega)).imp_left Option.isSome_iff_exists.1
        simp only [Nat.add_zero] at d0 f0
        clear hth
        have HS := Lib.hid (HO2.out.stored (j * 5 + 2) (.int .i64 1))
        have HB3 : Hid (Below (w.heap.size + 1) (w.alloc (.cells #[.int .i64 3, .int .i64 i, .int .i64 b, .int .i64 v] 26)) (w2.setCell ⟨g1, j * 5 + 2, none⟩ (.int .i64 1))) := Lib.hid (HB2.out.setCell (by show w.heap.size + 1 ≤ g1; omega) _)
        go_wp2_with fail
        have o3 := HS.out.1
        rw [HSET.out] at o3
        have HO3 := Lib.hid o3
        clear o3
        refine (CJ.out _ _ _ (Rd.of_own HO3.out)).mono ?_
        rintro e w4 ⟨rfl, b4⟩
        have HB4 := Lib.hid (HB3.out.trans (b4.mono (by have := box_lt HB3.out; omega)))
        have HO4 := Lib.hid (own_mono (base' := w.heap.size) (own_below HO3.out b4) (by omega))
        go_wp2
        go_ret2
        exact ⟨_, rfl, World.ownsRow_nil _ _ _ _, box_below HB4.out⟩
    · have hcd : (x.c == 0) = false := by simp [hc]
      obtain ⟨e1, e2⟩ := st_no (HST.out.trans (if_neg (fun h => hc h.1)))
      rw [e1, e2]
      clear e1 e2
      clear hc hx hj hn hv
      go_enter Try.func20, Try.ntmps20
      go_wp2_with fail
      refine (CC.out _ (HA.out.alloc _)).mono ?_
      rintro e w1 ⟨v1, rfl, o1, b1⟩
      have HB1 : Hid (Below (w.heap.size + 1) (w.alloc (.cells #[.int .i64 3, .int .i64 i, .int .i64 b, .int .i64 v] 26)) w1) := Lib.hid ((Below.refl _ _).trans (b1.mono (by simp)))
      have o1' := own_mono (base' := w.heap.size + 1) o1 (by simp)
      obtain ⟨g1, cap1, rfl, hg1, hg1'⟩ := own_some o1' (by omega)
      have HO1 := Lib.hid o1'
      clear o1 o1' b1
      have y0 := box_at HB1.out 0 _ rfl
      have y1 := box_at HB1.out 1 _ rfl
      have y2 := box_at HB1.out 2 _ rfl
      have y3 := box_at HB1.out 3 _ rfl
      have hy := box_lt HB1.out
      go_wp2_with fail
      refine (CB.out _ (HA.out.below (box_below HB1.out))).mono ?_
      rintro e w2 ⟨rfl, b2⟩
      have HB2 := Lib.hid (HB1.out.trans (b2.mono (by omega)))
      have HO2 := Lib.hid (own_below HO1.out b2)
      clear y0 y1 y2 y3 hy
      clear b2
      have y0 := box_at HB2.out 0 _ rfl
      have y1 := box_at HB2.out 1 _ rfl
      have y2 := box_at HB2.out 2 _ rfl
      have y3 := box_at HB2.out 3 _ rfl
      have hy := box_lt HB2.out
      have hne : ¬ g = g1 := by omega
      have hne2 : ¬ g1 = g := by omega
      have hgw : g1 < w2.heap.size := (HO2.out.lt _ rfl).2
      have hbx : ¬ w.heap.size = g1 := by omega
      have hbx2 : ¬ g1 = w.heap.size := by omega
      obtain ⟨g', o', hAe, hg, c0, c1, c2, c3, c4⟩ := (HA.out.below (box_below HB2.out)).at5 HX.out
      injection hAe with hAe
      injection hAe with q1 q2
      subst q1; subst q2
      have hth := own_there HO2.out (j * 5 + 2) 1 (by omega)
      obtain ⟨⟨ud0, d0⟩, f0⟩ := (hth 0 (by omega)).imp_left Option.isSome_iff_exists.1
      simp only [Nat.add_zero] at d0 f0
      clear hth
      have HS := Lib.hid (HO2.out.stored (j * 5 + 2) (.int .i64 1))
      have HB3 : Hid (Below (w.heap.size + 1) (w.alloc (.cells #[.int .i64 3, .int .i64 i, .int .i64 b, .int .i64 v] 26)) (w2.setCell ⟨g1, j * 5 + 2, none⟩ (.int .i64 1))) := Lib.hid (HB2.out.setCell (by show w.heap.size + 1 ≤ g1; omega) _)
      go_wp2
      go_ret2
      exact ⟨_, rfl, World.ownsRow_nil _ _ _ _, box_below HB3.out⟩

set_option maxRecDepth 20000 in
set_option maxHeartbeats 4000000 in
theorem stepAuction4 (A : Option Addr) (n c : Nat) (xs : List R5) (i b v : Int) (w : World) (hn : xs.length = n) (hA : Rd w A (cells5 xs)) (hv : auc xs = true) (hs : stepB 4 i b v = true) :
    Calls Try.prog 20 #[.slice A n c, .agg #[.int .i64 4, .int .i64 i, .int .i64 b, .int .i64 v]] w (RetOwnB 36 5 (stL xs 4 i b v).length (cells5 (stL xs 4 i b v)) (stB xs 4 i b v) w) := by
  have n8 : n ≤ 8 := by have := auc_len hv; omega
  have CC := Lib.hid (fun w h => cloneSaleLot_any A n c (cells5 xs) w (by rw [length_cells5, hn]) h (oneCell_cells5 xs) (by omega))
  have CB := Lib.hid (fun w h => binSale_any A n c xs i w hn h hv)
  have CO := Lib.hid (fun w h => openLot_any A n c xs w hn h (by omega))
  have CI := Lib.hid (fun A2 n2 c2 xs2 w2 h1 h2 h3 => isAuction_any A2 n2 c2 xs2 w2 h1 h2 h3)
  have HA := Lib.hid hA
  have HN := Lib.hid hn
  have HV := Lib.hid hv
  have HL : Hid ((cells5 xs).length = n * 5) := Lib.hid (by rw [length_cells5, hn])
  clear hA
  have hbv : (1 ≤ b ∧ b ≤ 999) ∧ (1 ≤ v ∧ v ≤ 99999) := by simp only [stepB] at hs; simp [inR] at hs; omega
  rcases open_cases hv with hi | ⟨j, x, hi, hj, hx, hxc, hlt⟩
  · rw [hi] at CO
    obtain ⟨e1, e2⟩ := st_no (stO_45n i b v (.inl rfl) hi)
    rw [e1, e2]
    clear e1 e2
    clear hi hs hn hbv hv
    go_enter Try.func20, Try.ntmps20
    go_wp2_with fail
    refine (CC.out _ (HA.out.alloc _)).mono ?_
    rintro e w1 ⟨v1, rfl, o1, b1⟩
    have HB1 : Hid (Below (w.heap.size + 1) (w.alloc (.cells #[.int .i64 4, .int .i64 i, .int .i64 b, .int .i64 v] 26)) w1) := Lib.hid ((Below.refl _ _).trans (b1.mono (by simp)))
    have HO1 := Lib.hid (own_mono (base' := w.heap.size + 1) o1 (by simp))
    clear o1 b1
    have y0 := box_at HB1.out 0 _ rfl
    have y1 := box_at HB1.out 1 _ rfl
    have y2 := box_at HB1.out 2 _ rfl
    have y3 := box_at HB1.out 3 _ rfl
    have hy := box_lt HB1.out
    go_wp2_with fail
    refine (CB.out _ (HA.out.below (box_below HB1.out))).mono ?_
    rintro e w2 ⟨rfl, b2⟩
    have HB2 := Lib.hid (HB1.out.trans (b2.mono (by omega)))
    have HO2 := Lib.hid (own_below HO1.out b2)
    clear y0 y1 y2 y3 hy
    clear b2
    have y0 := box_at HB2.out 0 _ rfl
    have y1 := box_at HB2.out 1 _ rfl
    have y2 := box_at HB2.out 2 _ rfl
    have y3 := box_at HB2.out 3 _ rfl
    have hy := box_lt HB2.out
    go_wp2_with fail
    refine (CO.out _ (HA.out.below (box_below HB2.out))).mono ?_
    rintro e w3 ⟨rfl, b3⟩
    have HB3 := Lib.hid (HB2.out.trans (b3.mono (by omega)))
    have HO3 := Lib.hid (own_below HO2.out b3)
    clear y0 y1 y2 y3 hy
    clear b3
    have y0 := box_at HB3.out 0 _ rfl
    have y1 := box_at HB3.out 1 _ rfl
    have y2 := box_at HB3.out 2 _ rfl
    have y3 := box_at HB3.out 3 _ rfl
    have hy := box_lt HB3.out
    go_wp2
    go_ret2
    exact ⟨_, rfl, World.ownsRow_nil _ _ _ _, box_below HB3.out⟩
  · rw [hi] at CO
    obtain ⟨g, o, hAe, hg0, -, -, -, -, -⟩ := HA.out.at5 hx
    subst hAe
    have HX := Lib.hid hx
    have hj5 : j < n := by omega
    have hj0 : (0 : Int) ≤ (j : Int) := by omega
    have HST := Lib.hid (stO_4 i b v hi hx)
    have hxd := (lot_bd hlt).2.2.1
    have CL := Lib.hid (fun w => leastBid_any x w hxd)
    have CJ := Lib.hid (fun A2 c2 w2 h => isAuction_any A2 n c2 (xs.set j { x with d := v, e := b }) w2 (by rw [List.length_set, hn]) h (by omega))
    rw [bid_auc hv hx hxc hbv.1 hbv.2] at CJ
    have HPL := Lib.hid (show (xs.set j { x with d := v, e := b }).length = n by rw [List.length_set, hn])
    have HSA := Lib.hid (setF_cells5 (q := 3) (v := .int .i64 v) (y := { x with d := v }) hx (by omega) rfl)
    have HSB := Lib.hid (setF_cells5 (xs := xs.set j { x with d := v }) (x := { x with d := v }) (q := 4) (v := .int .i64 b) (y := { x with d := v, e := b }) (by rw [List.getElem?_set_self (by omega)]) (by omega) rfl)
    have HSS := Lib.hid (show (xs.set j { x with d := v }).set j { x with d := v, e := b } = xs.set j { x with d := v, e := b } from List.set_set ..)
    obtain ⟨L, hL⟩ : ∃ L, L = leastV x := ⟨_, rfl⟩
    have HLE := Lib.hid hL
    rw [← hL] at CL
    clear hi hs hv hxc hlt hxd hL hbv
    by_cases h1 : L ≤ v
    · have h1d : decide (L ≤ v) = true := by simp [h1]
      by_cases h2 : b = x.e
      · have h2d : (b != x.e) = false := by simp [h2]
        obtain ⟨e1, e2⟩ := st_no (HST.out.trans (if_neg (fun h => h.2 h2)))
        rw [e1, e2]
        clear e1 e2
        have H2 := Lib.hid h2
        clear h2 hx hj hn
        go_enter Try.func20, Try.ntmps20
        go_wp2_with fail
        refine (CC.out _ (HA.out.alloc _)).mono ?_
        rintro e w1 ⟨v1, rfl, o1, b1⟩
        have HB1 : Hid (Below (w.heap.size + 1) (w.alloc (.cells #[.int .i64 4, .int .i64 i, .int .i64 b, .int .i64 v] 26)) w1) := Lib.hid ((Below.refl _ _).trans (b1.mono (by simp)))
        have o1' := own_mono (base' := w.heap.size + 1) o1 (by simp)
        obtain ⟨g1, cap1, rfl, hg1, hg1'⟩ := own_some o1' (by omega)
        have HO1 := Lib.hid o1'
        clear o1 o1' b1
        have y0 := box_at HB1.out 0 _ rfl
        have y1 := box_at HB1.out 1 _ rfl
        have y2 := box_at HB1.out 2 _ rfl
        have y3 := box_at HB1.out 3 _ rfl
        have hy := box_lt HB1.out
        go_wp2_with fail
        refine (CB.out _ (HA.out.below (box_below HB1.out))).mono ?_
        rintro e w2 ⟨rfl, b2⟩
        have HB2 := Lib.hid (HB1.out.trans (b2.mono (by omega)))
        have HO2 := Lib.hid (own_below HO1.out b2)
        clear y0 y1 y2 y3 hy
        clear b2
        have y0 := box_at HB2.out 0 _ rfl
        have y1 := box_at HB2.out 1 _ rfl
        have y2 := box_at HB2.out 2 _ rfl
        have y3 := box_at HB2.out 3 _ rfl
        have hy := box_lt HB2.out
        go_wp2_with fail
        refine (CO.out _ (HA.out.below (box_below HB2.out))).mono ?_
        rintro e w3 ⟨rfl, b3⟩
        have HB3 := Lib.hid (HB2.out.trans (b3.mono (by omega)))
        have HO3 := Lib.hid (own_below HO2.out b3)
        clear y0 y1 y2 y3 hy
        clear b3
        have y0 := box_at HB3.out 0 _ rfl
        have y1 := box_at HB3.out 1 _ rfl
        have y2 := box_at HB3.out 2 _ rfl
        have y3 := box_at HB3.out 3 _ rfl
        have hy := box_lt HB3.out
        have hne : ¬ g = g1 := by omega
        have hne2 : ¬ g1 = g := by omega
        have hgw : g1 < w3.heap.size := (HO3.out.lt _ rfl).2
        have hbx : ¬ w.heap.size = g1 := by omega
        have hbx2 : ¬ g1 = w.heap.size := by omega
        obtain ⟨g', o', hAe, hg, c0, c1, c2, c3, c4⟩ := (HA.out.below (box_below HB3.out)).at5 HX.out
        injection hAe with hAe
        injection hAe with q1 q2
        subst q1; subst q2
        go_wp2_with fail
        refine wp_region_lat w3.heap.size (by kernel_rfl) (by kernel_rfl) ?_
        have LC := fun (u : Lat w3.heap.size w3) => u.cell
        repeat (go_big_quiet_step ((go_at_call 25; (with_reducible exact lat_call _ (Nat.le_refl _) (CL.out _)))))
        refine wpQuiet_nil ?_
        intro w4 b4
        clear LC
        have HB4 := Lib.hid (HB3.out.trans (b4.mono (by omega)))
        have HO4 := Lib.hid (own_below HO3.out b4)
        clear y0 y1 y2 y3 hy
        clear b4 c0 c1 c2 c3 c4
        have y0 := box_at HB4.out 0 _ rfl
        have y1 := box_at HB4.out 1 _ rfl
        have y2 := box_at HB4.out 2 _ rfl
        have y3 := box_at HB4.out 3 _ rfl
        have hy := box_lt HB4.out
        have hgw4 : g1 < w4.heap.size := (HO4.out.lt _ rfl).2
        have hth := own_there HO4.out (j * 5 + 3) 1 (by omega)
        obtain ⟨⟨ud3, d3⟩, f3⟩ := (hth 0 (by omega)).imp_left Option.isSome_iff_exists.1
        simp only [Nat.add_zero] at d3 f3
        clear hth
        have hth := own_there HO4.out (j * 5 + 4) 1 (by omega)
        obtain ⟨⟨ud4, d4⟩, f4⟩ := (hth 0 (by omega)).imp_left Option.isSome_iff_exists.1
        simp only [Nat.add_zero] at d4 f4
        clear hth
        have ho34 : ¬ j * 5 + 3 = j * 5 + 4 := by omega
        have ho43 : ¬ j * 5 + 4 = j * 5 + 3 := by omega
        have HS1 := Lib.hid (HO4.out.stored (j * 5 + 3) (.int .i64 v))
        have HS2 := Lib.hid (HS1.out.1.stored (j * 5 + 4) (.int .i64 b))
        have HB5 : Hid (Below (w.heap.size + 1) (w.alloc (.cells #[.int .i64 4, .int .i64 i, .int .i64 b, .int .i64 v] 26)) (((w4.setCell ⟨g1, j * 5 + 3, none⟩ (.int .i64 v)).setCell ⟨g1, j * 5 + 4, none⟩ (.int .i64 b)).drew)) := Lib.hid (((HB4.out.setCell (by show w.heap.size + 1 ≤ g1; omega) _).setCell (by show w.heap.size + 1 ≤ g1; omega) _).drew)
        go_wp2_with fail
        go_region
        all_goals go_goals
        go_wp2
        go_ret2
        exact ⟨_, rfl, World.ownsRow_nil _ _ _ _, box_below HB5.out⟩
      · have h2d : (b != x.e) = true := by simp [h2]
        obtain ⟨e1, e2⟩ := st_yes (HST.out.trans (if_pos ⟨by rw [← HLE.out]; exact h1, h2⟩))
        rw [e1, e2]
        clear e1 e2
        clear h2 hx hj hn
        go_enter Try.func20, Try.ntmps20
        go_wp2_with fail
        refine (CC.out _ (HA.out.alloc _)).mono ?_
        rintro e w1 ⟨v1, rfl, o1, b1⟩
        have HB1 : Hid (Below (w.heap.size + 1) (w.alloc (.cells #[.int .i64 4, .int .i64 i, .int .i64 b, .int .i64 v] 26)) w1) := Lib.hid ((Below.refl _ _).trans (b1.mono (by simp)))
        have o1' := own_mono (base' := w.heap.size + 1) o1 (by simp)
        obtain ⟨g1, cap1, rfl, hg1, hg1'⟩ := own_some o1' (by omega)
        have HO1 := Lib.hid o1'
        clear o1 o1' b1
        have y0 := box_at HB1.out 0 _ rfl
        have y1 := box_at HB1.out 1 _ rfl
        have y2 := box_at HB1.out 2 _ rfl
        have y3 := box_at HB1.out 3 _ rfl
        have hy := box_lt HB1.out
        go_wp2_with fail
        refine (CB.out _ (HA.out.below (box_below HB1.out))).mono ?_
        rintro e w2 ⟨rfl, b2⟩
        have HB2 := Lib.hid (HB1.out.trans (b2.mono (by omega)))
        have HO2 := Lib.hid (own_below HO1.out b2)
        clear y0 y1 y2 y3 hy
        clear b2
        have y0 := box_at HB2.out 0 _ rfl
        have y1 := box_at HB2.out 1 _ rfl
        have y2 := box_at HB2.out 2 _ rfl
        have y3 := box_at HB2.out 3 _ rfl
        have hy := box_lt HB2.out
        go_wp2_with fail
        refine (CO.out _ (HA.out.below (box_below HB2.out))).mono ?_
        rintro e w3 ⟨rfl, b3⟩
        have HB3 := Lib.hid (HB2.out.trans (b3.mono (by omega)))
        have HO3 := Lib.hid (own_below HO2.out b3)
        clear y0 y1 y2 y3 hy
        clear b3
        have y0 := box_at HB3.out 0 _ rfl
        have y1 := box_at HB3.out 1 _ rfl
        have y2 := box_at HB3.out 2 _ rfl
        have y3 := box_at HB3.out 3 _ rfl
        have hy := box_lt HB3.out
        have hne : ¬ g = g1 := by omega
        have hne2 : ¬ g1 = g := by omega
        have hgw : g1 < w3.heap.size := (HO3.out.lt _ rfl).2
        have hbx : ¬ w.heap.size = g1 := by omega
        have hbx2 : ¬ g1 = w.heap.size := by omega
        obtain ⟨g', o', hAe, hg, c0, c1, c2, c3, c4⟩ := (HA.out.below (box_below HB3.out)).at5 HX.out
        injection hAe with hAe
        injection hAe with q1 q2
        subst q1; subst q2
        go_wp2_with fail
        refine wp_region_lat w3.heap.size (by kernel_rfl) (by kernel_rfl) ?_
        have LC := fun (u : Lat w3.heap.size w3) => u.cell
        repeat (go_big_quiet_step ((go_at_call 25; (with_reducible exact lat_call _ (Nat.le_refl _) (CL.out _)))))
        refine wpQuiet_nil ?_
        intro w4 b4
        clear LC
        have HB4 := Lib.hid (HB3.out.trans (b4.mono (by omega)))
        have HO4 := Lib.hid (own_below HO3.out b4)
        clear y0 y1 y2 y3 hy
        clear b4 c0 c1 c2 c3 c4
        have y0 := box_at HB4.out 0 _ rfl
        have y1 := box_at HB4.out 1 _ rfl
        have y2 := box_at HB4.out 2 _ rfl
        have y3 := box_at HB4.out 3 _ rfl
        have hy := box_lt HB4.out
        have hgw4 : g1 < w4.heap.size := (HO4.out.lt _ rfl).2
        have hth := own_there HO4.out (j * 5 + 3) 1 (by omega)
        obtain ⟨⟨ud3, d3⟩, f3⟩ := (hth 0 (by omega)).imp_left Option.isSome_iff_exists.1
        simp only [Nat.add_zero] at d3 f3
        clear hth
        have hth := own_there HO4.out (j * 5 + 4) 1 (by omega)
        obtain ⟨⟨ud4, d4⟩, f4⟩ := (hth 0 (by omega)).imp_left Option.isSome_iff_exists.1
        simp only [Nat.add_zero] at d4 f4
        clear hth
        have ho34 : ¬ j * 5 + 3 = j * 5 + 4 := by omega
        have ho43 : ¬ j * 5 + 4 = j * 5 + 3 := by omega
        have HS1 := Lib.hid (HO4.out.stored (j * 5 + 3) (.int .i64 v))
        have HS2 := Lib.hid (HS1.out.1.stored (j * 5 + 4) (.int .i64 b))
        have HB5 : Hid (Below (w.heap.size + 1) (w.alloc (.cells #[.int .i64 4, .int .i64 i, .int .i64 b, .int .i64 v] 26)) (((w4.setCell ⟨g1, j * 5 + 3, none⟩ (.int .i64 v)).setCell ⟨g1, j * 5 + 4, none⟩ (.int .i64 b)).drew)) := Lib.hid (((HB4.out.setCell (by show w.heap.size + 1 ≤ g1; omega) _).setCell (by show w.heap.size + 1 ≤ g1; omega) _).drew)
        go_wp2_with fail
        go_region
        all_goals go_goals
        have o5 := drew_own HS2.out.1
        rw [HSA.out, HSB.out, HSS.out] at o5
        have HO5 := Lib.hid o5
        clear o5
        go_wp2_with fail
        refine (CJ.out _ _ _ (Rd.of_own HO5.out)).mono ?_
        rintro e w6 ⟨rfl, b6⟩
        have HB6 := Lib.hid (HB5.out.trans (b6.mono (by have := box_lt HB5.out; omega)))
        have HO6 := Lib.hid (own_mono (base' := w.heap.size) (own_below HO5.out b6) (by omega))
        go_wp2
        go_ret2
        refine ⟨_, rfl, ?_, box_below HB6.out⟩
        rw [HPL.out]
        exact HO6.out
    · have h1d : decide (L ≤ v) = false := by simp; omega
      obtain ⟨e1, e2⟩ := st_no (HST.out.trans (if_neg (fun h => h1 (by rw [HLE.out]; exact h.1))))
      rw [e1, e2]
      clear e1 e2
      clear h1 hx hj hn
      go_enter Try.func20, Try.ntmps20
      go_wp2_with fail
      refine (CC.out _ (HA.out.alloc _)).mono ?_
      rintro e w1 ⟨v1, rfl, o1, b1⟩
      have HB1 : Hid (Below (w.heap.size + 1) (w.alloc (.cells #[.int .i64 4, .int .i64 i, .int .i64 b, .int .i64 v] 26)) w1) := Lib.hid ((Below.refl _ _).trans (b1.mono (by simp)))
      have o1' := own_mono (base' := w.heap.size + 1) o1 (by simp)
      obtain ⟨g1, cap1, rfl, hg1, hg1'⟩ := own_some o1' (by omega)
      have HO1 := Lib.hid o1'
      clear o1 o1' b1
      have y0 := box_at HB1.out 0 _ rfl
      have y1 := box_at HB1.out 1 _ rfl
      have y2 := box_at HB1.out 2 _ rfl
      have y3 := box_at HB1.out 3 _ rfl
      have hy := box_lt HB1.out
      go_wp2_with fail
      refine (CB.out _ (HA.out.below (box_below HB1.out))).mono ?_
      rintro e w2 ⟨rfl, b2⟩
      have HB2 := Lib.hid (HB1.out.trans (b2.mono (by omega)))
      have HO2 := Lib.hid (own_below HO1.out b2)
      clear y0 y1 y2 y3 hy
      clear b2
      have y0 := box_at HB2.out 0 _ rfl
      have y1 := box_at HB2.out 1 _ rfl
      have y2 := box_at HB2.out 2 _ rfl
      have y3 := box_at HB2.out 3 _ rfl
      have hy := box_lt HB2.out
      go_wp2_with fail
      refine (CO.out _ (HA.out.below (box_below HB2.out))).mono ?_
      rintro e w3 ⟨rfl, b3⟩
      have HB3 := Lib.hid (HB2.out.trans (b3.mono (by omega)))
      have HO3 := Lib.hid (own_below HO2.out b3)
      clear y0 y1 y2 y3 hy
      clear b3
      have y0 := box_at HB3.out 0 _ rfl
      have y1 := box_at HB3.out 1 _ rfl
      have y2 := box_at HB3.out 2 _ rfl
      have y3 := box_at HB3.out 3 _ rfl
      have hy := box_lt HB3.out
      have hne : ¬ g = g1 := by omega
      have hne2 : ¬ g1 = g := by omega
      have hgw : g1 < w3.heap.size := (HO3.out.lt _ rfl).2
      have hbx : ¬ w.heap.size = g1 := by omega
      have hbx2 : ¬ g1 = w.heap.size := by omega
      obtain ⟨g', o', hAe, hg, c0, c1, c2, c3, c4⟩ := (HA.out.below (box_below HB3.out)).at5 HX.out
      injection hAe with hAe
      injection hAe with q1 q2
      subst q1; subst q2
      go_wp2_with fail
      refine wp_region_lat w3.heap.size (by kernel_rfl) (by kernel_rfl) ?_
      have LC := fun (u : Lat w3.heap.size w3) => u.cell
      repeat (go_big_quiet_step ((go_at_call 25; (with_reducible exact lat_call _ (Nat.le_refl _) (CL.out _)))))
      refine wpQuiet_nil ?_
      intro w4 b4
      clear LC
      have HB4 := Lib.hid (HB3.out.trans (b4.mono (by omega)))
      have HO4 := Lib.hid (own_below HO3.out b4)
      clear y0 y1 y2 y3 hy
      clear b4 c0 c1 c2 c3 c4
      have y0 := box_at HB4.out 0 _ rfl
      have y1 := box_at HB4.out 1 _ rfl
      have y2 := box_at HB4.out 2 _ rfl
      have y3 := box_at HB4.out 3 _ rfl
      have hy := box_lt HB4.out
      have hgw4 : g1 < w4.heap.size := (HO4.out.lt _ rfl).2
      have hth := own_there HO4.out (j * 5 + 3) 1 (by omega)
      obtain ⟨⟨ud3, d3⟩, f3⟩ := (hth 0 (by omega)).imp_left Option.isSome_iff_exists.1
      simp only [Nat.add_zero] at d3 f3
      clear hth
      have hth := own_there HO4.out (j * 5 + 4) 1 (by omega)
      obtain ⟨⟨ud4, d4⟩, f4⟩ := (hth 0 (by omega)).imp_left Option.isSome_iff_exists.1
      simp only [Nat.add_zero] at d4 f4
      clear hth
      have ho34 : ¬ j * 5 + 3 = j * 5 + 4 := by omega
      have ho43 : ¬ j * 5 + 4 = j * 5 + 3 := by omega
      have HS1 := Lib.hid (HO4.out.stored (j * 5 + 3) (.int .i64 v))
      have HS2 := Lib.hid (HS1.out.1.stored (j * 5 + 4) (.int .i64 b))
      have HB5 : Hid (Below (w.heap.size + 1) (w.alloc (.cells #[.int .i64 4, .int .i64 i, .int .i64 b, .int .i64 v] 26)) (((w4.setCell ⟨g1, j * 5 + 3, none⟩ (.int .i64 v)).setCell ⟨g1, j * 5 + 4, none⟩ (.int .i64 b)).drew)) := Lib.hid (((HB4.out.setCell (by show w.heap.size + 1 ≤ g1; omega) _).setCell (by show w.heap.size + 1 ≤ g1; omega) _).drew)
      go_wp2_with fail
      go_region
      all_goals go_goals
      go_wp2
      go_ret2
      exact ⟨_, rfl, World.ownsRow_nil _ _ _ _, box_below HB5.out⟩

set_option maxRecDepth 20000 in
set_option maxHeartbeats 4000000 in
theorem stepAuction5 (A : Option Addr) (n c : Nat) (xs : List R5) (i b v : Int) (w : World) (hn : xs.length = n) (hA : Rd w A (cells5 xs)) (hv : auc xs = true) (hs : stepB 5 i b v = true) :
    Calls Try.prog 20 #[.slice A n c, .agg #[.int .i64 5, .int .i64 i, .int .i64 b, .int .i64 v]] w (RetOwnB 36 5 (stL xs 5 i b v).length (cells5 (stL xs 5 i b v)) (stB xs 5 i b v) w) := by
  have n8 : n ≤ 8 := by have := auc_len hv; omega
  have CC := Lib.hid (fun w h => cloneSaleLot_any A n c (cells5 xs) w (by rw [length_cells5, hn]) h (oneCell_cells5 xs) (by omega))
  have CB := Lib.hid (fun w h => binSale_any A n c xs i w hn h hv)
  have CO := Lib.hid (fun w h => openLot_any A n c xs w hn h (by omega))
  have CI := Lib.hid (fun A2 n2 c2 xs2 w2 h1 h2 h3 => isAuction_any A2 n2 c2 xs2 w2 h1 h2 h3)
  have HA := Lib.hid hA
  have HN := Lib.hid hn
  have HV := Lib.hid hv
  have HL : Hid ((cells5 xs).length = n * 5) := Lib.hid (by rw [length_cells5, hn])
  clear hA
  rcases open_cases hv with hi | ⟨j, x, hi, hj, hx, hxc, hlt⟩
  · rw [hi] at CO
    obtain ⟨e1, e2⟩ := st_no (stO_45n i b v (.inr rfl) hi)
    rw [e1, e2]
    clear e1 e2
    clear hi hs hn hv
    go_enter Try.func20, Try.ntmps20
    go_wp2_with fail
    refine (CC.out _ (HA.out.alloc _)).mono ?_
    rintro e w1 ⟨v1, rfl, o1, b1⟩
    have HB1 : Hid (Below (w.heap.size + 1) (w.alloc (.cells #[.int .i64 5, .int .i64 i, .int .i64 b, .int .i64 v] 26)) w1) := Lib.hid ((Below.refl _ _).trans (b1.mono (by simp)))
    have HO1 := Lib.hid (own_mono (base' := w.heap.size + 1) o1 (by simp))
    clear o1 b1
    have y0 := box_at HB1.out 0 _ rfl
    have y1 := box_at HB1.out 1 _ rfl
    have y2 := box_at HB1.out 2 _ rfl
    have y3 := box_at HB1.out 3 _ rfl
    have hy := box_lt HB1.out
    go_wp2_with fail
    refine (CB.out _ (HA.out.below (box_below HB1.out))).mono ?_
    rintro e w2 ⟨rfl, b2⟩
    have HB2 := Lib.hid (HB1.out.trans (b2.mono (by omega)))
    have HO2 := Lib.hid (own_below HO1.out b2)
    clear y0 y1 y2 y3 hy
    clear b2
    have y0 := box_at HB2.out 0 _ rfl
    have y1 := box_at HB2.out 1 _ rfl
    have y2 := box_at HB2.out 2 _ rfl
    have y3 := box_at HB2.out 3 _ rfl
    have hy := box_lt HB2.out
    go_wp2_with fail
    refine (CO.out _ (HA.out.below (box_below HB2.out))).mono ?_
    rintro e w3 ⟨rfl, b3⟩
    have HB3 := Lib.hid (HB2.out.trans (b3.mono (by omega)))
    have HO3 := Lib.hid (own_below HO2.out b3)
    clear y0 y1 y2 y3 hy
    clear b3
    have y0 := box_at HB3.out 0 _ rfl
    have y1 := box_at HB3.out 1 _ rfl
    have y2 := box_at HB3.out 2 _ rfl
    have y3 := box_at HB3.out 3 _ rfl
    have hy := box_lt HB3.out
    go_wp2
    go_ret2
    exact ⟨_, rfl, World.ownsRow_nil _ _ _ _, box_below HB3.out⟩
  · rw [hi] at CO
    obtain ⟨g, o, hAe, hg0, -, -, -, -, -⟩ := HA.out.at5 hx
    subst hAe
    have HX := Lib.hid hx
    have hj5 : j < n := by omega
    have hj0 : (0 : Int) ≤ (j : Int) := by omega
    obtain ⟨e1, e2⟩ := st_yes (stO_5 i b v hi hx)
    rw [e1, e2]
    clear e1 e2
    obtain ⟨-, hxb, hxd, -⟩ := lot_bd hlt
    have CJ := Lib.hid (fun A2 c2 w2 h => isAuction_any A2 n c2 (xs.set j { x with c := knC x }) w2 (by rw [List.length_set, hn]) h (by omega))
    rw [kno_auc hv hx] at CJ
    have HPL := Lib.hid (show (xs.set j { x with c := knC x }).length = n by rw [List.length_set, hn])
    have HS3 := Lib.hid (setF_cells5 (q := 2) (v := .int .i64 3) (y := { x with c := 3 }) hx (by omega) rfl)
    have HS2 := Lib.hid (setF_cells5 (xs := xs.set j { x with c := 3 }) (x := { x with c := 3 }) (q := 2) (v := .int .i64 2) (y := { x with c := 2 }) (by rw [List.getElem?_set_self (by omega)]) (by omega) rfl)
    have HSS := Lib.hid (show (xs.set j { x with c := 3 }).set j { x with c := 2 } = xs.set j { x with c := 2 } from List.set_set ..)
    clear hi hs hv hxc hlt
    by_cases hk1 : 1 ≤ x.d ∧ x.b ≤ x.d
    · have HK := Lib.hid (show xs.set j { x with c := knC x } = xs.set j { x with c := 2 } by rw [knC, if_pos hk1])
      obtain ⟨hq1, hq2⟩ := hk1
      have hq3 : ¬ x.d < 1 := by omega
      have hq4 : ¬ x.d < x.b := by omega
      clear hx hj hn
      rcases (show 1 < x.b ∨ x.b ≤ 1 by omega) with hb1 | hb1
      · have hb2 : decide (1 < x.b) = true := by simp [hb1]
        go_enter Try.func20, Try.ntmps20
        go_wp2_with fail
        refine (CC.out _ (HA.out.alloc _)).mono ?_
        rintro e w1 ⟨v1, rfl, o1, b1⟩
        have HB1 : Hid (Below (w.heap.size + 1) (w.alloc (.cells #[.int .i64 5, .int .i64 i, .int .i64 b, .int .i64 v] 26)) w1) := Lib.hid ((Below.refl _ _).trans (b1.mono (by simp)))
        have o1' := own_mono (base' := w.heap.size + 1) o1 (by simp)
        obtain ⟨g1, cap1, rfl, hg1, hg1'⟩ := own_some o1' (by omega)
        have HO1 := Lib.hid o1'
        clear o1 o1' b1
        have y0 := box_at HB1.out 0 _ rfl
        have y1 := box_at HB1.out 1 _ rfl
        have y2 := box_at HB1.out 2 _ rfl
        have y3 := box_at HB1.out 3 _ rfl
        have hy := box_lt HB1.out
        go_wp2_with fail
        refine (CB.out _ (HA.out.below (box_below HB1.out))).mono ?_
        rintro e w2 ⟨rfl, b2⟩
        have HB2 := Lib.hid (HB1.out.trans (b2.mono (by omega)))
        have HO2 := Lib.hid (own_below HO1.out b2)
        clear y0 y1 y2 y3 hy
        clear b2
        have y0 := box_at HB2.out 0 _ rfl
        have y1 := box_at HB2.out 1 _ rfl
        have y2 := box_at HB2.out 2 _ rfl
        have y3 := box_at HB2.out 3 _ rfl
        have hy := box_lt HB2.out
        go_wp2_with fail
        refine (CO.out _ (HA.out.below (box_below HB2.out))).mono ?_
        rintro e w3 ⟨rfl, b3⟩
        have HB3 := Lib.hid (HB2.out.trans (b3.mono (by omega)))
        have HO3 := Lib.hid (own_below HO2.out b3)
        clear y0 y1 y2 y3 hy
        clear b3
        have y0 := box_at HB3.out 0 _ rfl
        have y1 := box_at HB3.out 1 _ rfl
        have y2 := box_at HB3.out 2 _ rfl
        have y3 := box_at HB3.out 3 _ rfl
        have hy := box_lt HB3.out
        have hne : ¬ g = g1 := by omega
        have hne2 : ¬ g1 = g := by omega
        have hgw : g1 < w3.heap.size := (HO3.out.lt _ rfl).2
        have hbx : ¬ w.heap.size = g1 := by omega
        have hbx2 : ¬ g1 = w.heap.size := by omega
        have hth := own_there HO3.out (j * 5 + 2) 1 (by omega)
        obtain ⟨⟨ud0, d0⟩, f0⟩ := (hth 0 (by omega)).imp_left Option.isSome_iff_exists.1
        simp only [Nat.add_zero] at d0 f0
        clear hth
        obtain ⟨W4, hW4⟩ : ∃ W, W = w3.setCell ⟨g1, j * 5 + 2, none⟩ (.int .i64 3) := ⟨_, rfl⟩
        have HB4 : Hid (Below (w.heap.size + 1) (w.alloc (.cells #[.int .i64 5, .int .i64 i, .int .i64 b, .int .i64 v] 26)) W4) := Lib.hid (by rw [hW4]; exact HB3.out.setCell (by show w.heap.size + 1 ≤ g1; omega) _)
        have HO4 : Hid (W4.ownsRow (w.heap.size + 1) 36 5 (.slice (some ⟨g1, 0, none⟩) n cap1) n (cells5 (xs.set j { x with c := 3 }))) := Lib.hid (by rw [hW4, ← HS3.out]; exact (HO3.out.stored (j * 5 + 2) (.int .i64 3)).1)
        have HW4 := Lib.hid hW4
        have hs4 := box_lt HB4.out
        clear hW4
        go_wp2_with fail
        rw [← HW4.out]
        clear d0 f0
        clear y0 y1 y2 y3 hy
        have y0 := box_at HB4.out 0 _ rfl
        have y1 := box_at HB4.out 1 _ rfl
        have y2 := box_at HB4.out 2 _ rfl
        have y3 := box_at HB4.out 3 _ rfl
        have hy := box_lt HB4.out
        obtain ⟨g', o', hAe, hg, c0, c1, c2, c3, c4⟩ := (HA.out.below (box_below HB4.out)).at5 HX.out
        injection hAe with hAe
        injection hAe with q1 q2
        subst q1; subst q2
        refine wp_region_lat W4.heap.size (by kernel_rfl) (by kernel_rfl) ?_
        have LC := fun (u : Lat W4.heap.size W4) => u.cell
        repeat (go_big_quiet_step (fail))
        refine wpQuiet_nil ?_
        intro w5 b5
        clear LC
        have HB5 := Lib.hid (HB4.out.trans (b5.mono (by omega)))
        have HO5 := Lib.hid (own_below HO4.out b5)
        clear y0 y1 y2 y3 hy
        clear b5 c0 c1 c2 c3 c4
        have y0 := box_at HB5.out 0 _ rfl
        have y1 := box_at HB5.out 1 _ rfl
        have y2 := box_at HB5.out 2 _ rfl
        have y3 := box_at HB5.out 3 _ rfl
        have hy := box_lt HB5.out
        have hth := own_there HO5.out (j * 5 + 2) 1 (by omega)
        obtain ⟨⟨ud0, d0⟩, f0⟩ := (hth 0 (by omega)).imp_left Option.isSome_iff_exists.1
        simp only [Nat.add_zero] at d0 f0
        clear hth
        have HB6 : Hid (Below (w.heap.size + 1) (w.alloc (.cells #[.int .i64 5, .int .i64 i, .int .i64 b, .int .i64 v] 26)) (w5.setCell ⟨g1, j * 5 + 2, none⟩ (.int .i64 2))) := Lib.hid (HB5.out.setCell (by show w.heap.size + 1 ≤ g1; omega) _)
        have o6 := (HO5.out.stored (j * 5 + 2) (.int .i64 2)).1
        rw [HS2.out, HSS.out, ← HK.out] at o6
        have HO6 := Lib.hid o6
        clear o6
        go_wp2_with fail
        refine (CJ.out _ _ _ (Rd.of_own HO6.out)).mono ?_
        rintro e w7 ⟨rfl, b7⟩
        have HB7 := Lib.hid (HB6.out.trans (b7.mono (by have := box_lt HB6.out; omega)))
        have HO7 := Lib.hid (own_mono (base' := w.heap.size) (own_below HO6.out b7) (by omega))
        go_wp2
        go_ret2
        refine ⟨_, rfl, ?_, box_below HB7.out⟩
        rw [HPL.out]
        exact HO7.out
      · have hb2 : decide (1 < x.b) = false := by simp; omega
        have hb3 : ¬ 1 < x.b := by omega
        go_enter Try.func20, Try.ntmps20
        go_wp2_with fail
        refine (CC.out _ (HA.out.alloc _)).mono ?_
        rintro e w1 ⟨v1, rfl, o1, b1⟩
        have HB1 : Hid (Below (w.heap.size + 1) (w.alloc (.cells #[.int .i64 5, .int .i64 i, .int .i64 b, .int .i64 v] 26)) w1) := Lib.hid ((Below.refl _ _).trans (b1.mono (by simp)))
        have o1' := own_mono (base' := w.heap.size + 1) o1 (by simp)
        obtain ⟨g1, cap1, rfl, hg1, hg1'⟩ := own_some o1' (by omega)
        have HO1 := Lib.hid o1'
        clear o1 o1' b1
        have y0 := box_at HB1.out 0 _ rfl
        have y1 := box_at HB1.out 1 _ rfl
        have y2 := box_at HB1.out 2 _ rfl
        have y3 := box_at HB1.out 3 _ rfl
        have hy := box_lt HB1.out
        go_wp2_with fail
        refine (CB.out _ (HA.out.below (box_below HB1.out))).mono ?_
        rintro e w2 ⟨rfl, b2⟩
        have HB2 := Lib.hid (HB1.out.trans (b2.mono (by omega)))
        have HO2 := Lib.hid (own_below HO1.out b2)
        clear y0 y1 y2 y3 hy
        clear b2
        have y0 := box_at HB2.out 0 _ rfl
        have y1 := box_at HB2.out 1 _ rfl
        have y2 := box_at HB2.out 2 _ rfl
        have y3 := box_at HB2.out 3 _ rfl
        have hy := box_lt HB2.out
        go_wp2_with fail
        refine (CO.out _ (HA.out.below (box_below HB2.out))).mono ?_
        rintro e w3 ⟨rfl, b3⟩
        have HB3 := Lib.hid (HB2.out.trans (b3.mono (by omega)))
        have HO3 := Lib.hid (own_below HO2.out b3)
        clear y0 y1 y2 y3 hy
        clear b3
        have y0 := box_at HB3.out 0 _ rfl
        have y1 := box_at HB3.out 1 _ rfl
        have y2 := box_at HB3.out 2 _ rfl
        have y3 := box_at HB3.out 3 _ rfl
        have hy := box_lt HB3.out
        have hne : ¬ g = g1 := by omega
        have hne2 : ¬ g1 = g := by omega
        have hgw : g1 < w3.heap.size := (HO3.out.lt _ rfl).2
        have hbx : ¬ w.heap.size = g1 := by omega
        have hbx2 : ¬ g1 = w.heap.size := by omega
        have hth := own_there HO3.out (j * 5 + 2) 1 (by omega)
        obtain ⟨⟨ud0, d0⟩, f0⟩ := (hth 0 (by omega)).imp_left Option.isSome_iff_exists.1
        simp only [Nat.add_zero] at d0 f0
        clear hth
        obtain ⟨W4, hW4⟩ : ∃ W, W = w3.setCell ⟨g1, j * 5 + 2, none⟩ (.int .i64 3) := ⟨_, rfl⟩
        have HB4 : Hid (Below (w.heap.size + 1) (w.alloc (.cells #[.int .i64 5, .int .i64 i, .int .i64 b, .int .i64 v] 26)) W4) := Lib.hid (by rw [hW4]; exact HB3.out.setCell (by show w.heap.size + 1 ≤ g1; omega) _)
        have HO4 : Hid (W4.ownsRow (w.heap.size + 1) 36 5 (.slice (some ⟨g1, 0, none⟩) n cap1) n (cells5 (xs.set j { x with c := 3 }))) := Lib.hid (by rw [hW4, ← HS3.out]; exact (HO3.out.stored (j * 5 + 2) (.int .i64 3)).1)
        have HW4 := Lib.hid hW4
        have hs4 := box_lt HB4.out
        clear hW4
        go_wp2_with fail
        rw [← HW4.out]
        clear d0 f0
        clear y0 y1 y2 y3 hy
        have y0 := box_at HB4.out 0 _ rfl
        have y1 := box_at HB4.out 1 _ rfl
        have y2 := box_at HB4.out 2 _ rfl
        have y3 := box_at HB4.out 3 _ rfl
        have hy := box_lt HB4.out
        obtain ⟨g', o', hAe, hg, c0, c1, c2, c3, c4⟩ := (HA.out.below (box_below HB4.out)).at5 HX.out
        injection hAe with hAe
        injection hAe with q1 q2
        subst q1; subst q2
        refine wp_region_lat W4.heap.size (by kernel_rfl) (by kernel_rfl) ?_
        have LC := fun (u : Lat W4.heap.size W4) => u.cell
        repeat (go_big_quiet_step (fail))
        refine wpQuiet_nil ?_
        intro w5 b5
        clear LC
        have HB5 := Lib.hid (HB4.out.trans (b5.mono (by omega)))
        have HO5 := Lib.hid (own_below HO4.out b5)
        clear y0 y1 y2 y3 hy
        clear b5 c0 c1 c2 c3 c4
        have y0 := box_at HB5.out 0 _ rfl
        have y1 := box_at HB5.out 1 _ rfl
        have y2 := box_at HB5.out 2 _ rfl
        have y3 := box_at HB5.out 3 _ rfl
        have hy := box_lt HB5.out
        have hth := own_there HO5.out (j * 5 + 2) 1 (by omega)
        obtain ⟨⟨ud0, d0⟩, f0⟩ := (hth 0 (by omega)).imp_left Option.isSome_iff_exists.1
        simp only [Nat.add_zero] at d0 f0
        clear hth
        have HB6 : Hid (Below (w.heap.size + 1) (w.alloc (.cells #[.int .i64 5, .int .i64 i, .int .i64 b, .int .i64 v] 26)) (w5.setCell ⟨g1, j * 5 + 2, none⟩ (.int .i64 2))) := Lib.hid (HB5.out.setCell (by show w.heap.size + 1 ≤ g1; omega) _)
        have o6 := (HO5.out.stored (j * 5 + 2) (.int .i64 2)).1
        rw [HS2.out, HSS.out, ← HK.out] at o6
        have HO6 := Lib.hid o6
        clear o6
        go_wp2_with fail
        refine (CJ.out _ _ _ (Rd.of_own HO6.out)).mono ?_
        rintro e w7 ⟨rfl, b7⟩
        have HB7 := Lib.hid (HB6.out.trans (b7.mono (by have := box_lt HB6.out; omega)))
        have HO7 := Lib.hid (own_mono (base' := w.heap.size) (own_below HO6.out b7) (by omega))
        go_wp2
        go_ret2
        refine ⟨_, rfl, ?_, box_below HB7.out⟩
        rw [HPL.out]
        exact HO7.out
    · have HK := Lib.hid (show xs.set j { x with c := knC x } = xs.set j { x with c := 3 } by rw [knC, if_neg hk1])
      clear hx hj hn
      rcases (show 1 < x.b ∨ x.b ≤ 1 by omega) with hb1 | hb1
      · have hb2 : decide (1 < x.b) = true := by simp [hb1]
        have hq4 : x.d < x.b := by omega
        go_enter Try.func20, Try.ntmps20
        go_wp2_with fail
        refine (CC.out _ (HA.out.alloc _)).mono ?_
        rintro e w1 ⟨v1, rfl, o1, b1⟩
        have HB1 : Hid (Below (w.heap.size + 1) (w.alloc (.cells #[.int .i64 5, .int .i64 i, .int .i64 b, .int .i64 v] 26)) w1) := Lib.hid ((Below.refl _ _).trans (b1.mono (by simp)))
        have o1' := own_mono (base' := w.heap.size + 1) o1 (by simp)
        obtain ⟨g1, cap1, rfl, hg1, hg1'⟩ := own_some o1' (by omega)
        have HO1 := Lib.hid o1'
        clear o1 o1' b1
        have y0 := box_at HB1.out 0 _ rfl
        have y1 := box_at HB1.out 1 _ rfl
        have y2 := box_at HB1.out 2 _ rfl
        have y3 := box_at HB1.out 3 _ rfl
        have hy := box_lt HB1.out
        go_wp2_with fail
        refine (CB.out _ (HA.out.below (box_below HB1.out))).mono ?_
        rintro e w2 ⟨rfl, b2⟩
        have HB2 := Lib.hid (HB1.out.trans (b2.mono (by omega)))
        have HO2 := Lib.hid (own_below HO1.out b2)
        clear y0 y1 y2 y3 hy
        clear b2
        have y0 := box_at HB2.out 0 _ rfl
        have y1 := box_at HB2.out 1 _ rfl
        have y2 := box_at HB2.out 2 _ rfl
        have y3 := box_at HB2.out 3 _ rfl
        have hy := box_lt HB2.out
        go_wp2_with fail
        refine (CO.out _ (HA.out.below (box_below HB2.out))).mono ?_
        rintro e w3 ⟨rfl, b3⟩
        have HB3 := Lib.hid (HB2.out.trans (b3.mono (by omega)))
        have HO3 := Lib.hid (own_below HO2.out b3)
        clear y0 y1 y2 y3 hy
        clear b3
        have y0 := box_at HB3.out 0 _ rfl
        have y1 := box_at HB3.out 1 _ rfl
        have y2 := box_at HB3.out 2 _ rfl
        have y3 := box_at HB3.out 3 _ rfl
        have hy := box_lt HB3.out
        have hne : ¬ g = g1 := by omega
        have hne2 : ¬ g1 = g := by omega
        have hgw : g1 < w3.heap.size := (HO3.out.lt _ rfl).2
        have hbx : ¬ w.heap.size = g1 := by omega
        have hbx2 : ¬ g1 = w.heap.size := by omega
        have hth := own_there HO3.out (j * 5 + 2) 1 (by omega)
        obtain ⟨⟨ud0, d0⟩, f0⟩ := (hth 0 (by omega)).imp_left Option.isSome_iff_exists.1
        simp only [Nat.add_zero] at d0 f0
        clear hth
        obtain ⟨W4, hW4⟩ : ∃ W, W = w3.setCell ⟨g1, j * 5 + 2, none⟩ (.int .i64 3) := ⟨_, rfl⟩
        have HB4 : Hid (Below (w.heap.size + 1) (w.alloc (.cells #[.int .i64 5, .int .i64 i, .int .i64 b, .int .i64 v] 26)) W4) := Lib.hid (by rw [hW4]; exact HB3.out.setCell (by show w.heap.size + 1 ≤ g1; omega) _)
        have HO4 : Hid (W4.ownsRow (w.heap.size + 1) 36 5 (.slice (some ⟨g1, 0, none⟩) n cap1) n (cells5 (xs.set j { x with c := 3 }))) := Lib.hid (by rw [hW4, ← HS3.out]; exact (HO3.out.stored (j * 5 + 2) (.int .i64 3)).1)
        have HW4 := Lib.hid hW4
        have hs4 := box_lt HB4.out
        clear hW4
        go_wp2_with fail
        rw [← HW4.out]
        clear d0 f0
        clear y0 y1 y2 y3 hy
        have y0 := box_at HB4.out 0 _ rfl
        have y1 := box_at HB4.out 1 _ rfl
        have y2 := box_at HB4.out 2 _ rfl
        have y3 := box_at HB4.out 3 _ rfl
        have hy := box_lt HB4.out
        obtain ⟨g', o', hAe, hg, c0, c1, c2, c3, c4⟩ := (HA.out.below (box_below HB4.out)).at5 HX.out
        injection hAe with hAe
        injection hAe with q1 q2
        subst q1; subst q2
        refine wp_region_lat W4.heap.size (by kernel_rfl) (by kernel_rfl) ?_
        have LC := fun (u : Lat W4.heap.size W4) => u.cell
        repeat (go_big_quiet_step (fail))
        refine wpQuiet_nil ?_
        intro w5 b5
        clear LC
        have HB5 := Lib.hid (HB4.out.trans (b5.mono (by omega)))
        have HO5 := Lib.hid (own_below HO4.out b5)
        clear y0 y1 y2 y3 hy
        clear b5 c0 c1 c2 c3 c4
        have y0 := box_at HB5.out 0 _ rfl
        have y1 := box_at HB5.out 1 _ rfl
        have y2 := box_at HB5.out 2 _ rfl
        have y3 := box_at HB5.out 3 _ rfl
        have hy := box_lt HB5.out
        have HB6 := HB5
        have o6 := HO5.out
        rw [← HK.out] at o6
        have HO6 := Lib.hid o6
        clear o6
        go_wp2_with fail
        refine (CJ.out _ _ _ (Rd.of_own HO6.out)).mono ?_
        rintro e w7 ⟨rfl, b7⟩
        have HB7 := Lib.hid (HB6.out.trans (b7.mono (by have := box_lt HB6.out; omega)))
        have HO7 := Lib.hid (own_mono (base' := w.heap.size) (own_below HO6.out b7) (by omega))
        go_wp2
        go_ret2
        refine ⟨_, rfl, ?_, box_below HB7.out⟩
        rw [HPL.out]
        exact HO7.out
      · have hb2 : decide (1 < x.b) = false := by simp; omega
        have hb3 : ¬ 1 < x.b := by omega
        have hq3 : x.d < 1 := by omega
        go_enter Try.func20, Try.ntmps20
        go_wp2_with fail
        refine (CC.out _ (HA.out.alloc _)).mono ?_
        rintro e w1 ⟨v1, rfl, o1, b1⟩
        have HB1 : Hid (Below (w.heap.size + 1) (w.alloc (.cells #[.int .i64 5, .int .i64 i, .int .i64 b, .int .i64 v] 26)) w1) := Lib.hid ((Below.refl _ _).trans (b1.mono (by simp)))
        have o1' := own_mono (base' := w.heap.size + 1) o1 (by simp)
        obtain ⟨g1, cap1, rfl, hg1, hg1'⟩ := own_some o1' (by omega)
        have HO1 := Lib.hid o1'
        clear o1 o1' b1
        have y0 := box_at HB1.out 0 _ rfl
        have y1 := box_at HB1.out 1 _ rfl
        have y2 := box_at HB1.out 2 _ rfl
        have y3 := box_at HB1.out 3 _ rfl
        have hy := box_lt HB1.out
        go_wp2_with fail
        refine (CB.out _ (HA.out.below (box_below HB1.out))).mono ?_
        rintro e w2 ⟨rfl, b2⟩
        have HB2 := Lib.hid (HB1.out.trans (b2.mono (by omega)))
        have HO2 := Lib.hid (own_below HO1.out b2)
        clear y0 y1 y2 y3 hy
        clear b2
        have y0 := box_at HB2.out 0 _ rfl
        have y1 := box_at HB2.out 1 _ rfl
        have y2 := box_at HB2.out 2 _ rfl
        have y3 := box_at HB2.out 3 _ rfl
        have hy := box_lt HB2.out
        go_wp2_with fail
        refine (CO.out _ (HA.out.below (box_below HB2.out))).mono ?_
        rintro e w3 ⟨rfl, b3⟩
        have HB3 := Lib.hid (HB2.out.trans (b3.mono (by omega)))
        have HO3 := Lib.hid (own_below HO2.out b3)
        clear y0 y1 y2 y3 hy
        clear b3
        have y0 := box_at HB3.out 0 _ rfl
        have y1 := box_at HB3.out 1 _ rfl
        have y2 := box_at HB3.out 2 _ rfl
        have y3 := box_at HB3.out 3 _ rfl
        have hy := box_lt HB3.out
        have hne : ¬ g = g1 := by omega
        have hne2 : ¬ g1 = g := by omega
        have hgw : g1 < w3.heap.size := (HO3.out.lt _ rfl).2
        have hbx : ¬ w.heap.size = g1 := by omega
        have hbx2 : ¬ g1 = w.heap.size := by omega
        have hth := own_there HO3.out (j * 5 + 2) 1 (by omega)
        obtain ⟨⟨ud0, d0⟩, f0⟩ := (hth 0 (by omega)).imp_left Option.isSome_iff_exists.1
        simp only [Nat.add_zero] at d0 f0
        clear hth
        obtain ⟨W4, hW4⟩ : ∃ W, W = w3.setCell ⟨g1, j * 5 + 2, none⟩ (.int .i64 3) := ⟨_, rfl⟩
        have HB4 : Hid (Below (w.heap.size + 1) (w.alloc (.cells #[.int .i64 5, .int .i64 i, .int .i64 b, .int .i64 v] 26)) W4) := Lib.hid (by rw [hW4]; exact HB3.out.setCell (by show w.heap.size + 1 ≤ g1; omega) _)
        have HO4 : Hid (W4.ownsRow (w.heap.size + 1) 36 5 (.slice (some ⟨g1, 0, none⟩) n cap1) n (cells5 (xs.set j { x with c := 3 }))) := Lib.hid (by rw [hW4, ← HS3.out]; exact (HO3.out.stored (j * 5 + 2) (.int .i64 3)).1)
        have HW4 := Lib.hid hW4
        have hs4 := box_lt HB4.out
        clear hW4
        go_wp2_with fail
        rw [← HW4.out]
        clear d0 f0
        clear y0 y1 y2 y3 hy
        have y0 := box_at HB4.out 0 _ rfl
        have y1 := box_at HB4.out 1 _ rfl
        have y2 := box_at HB4.out 2 _ rfl
        have y3 := box_at HB4.out 3 _ rfl
        have hy := box_lt HB4.out
        obtain ⟨g', o', hAe, hg, c0, c1, c2, c3, c4⟩ := (HA.out.below (box_below HB4.out)).at5 HX.out
        injection hAe with hAe
        injection hAe with q1 q2
        subst q1; subst q2
        refine wp_region_lat W4.heap.size (by kernel_rfl) (by kernel_rfl) ?_
        have LC := fun (u : Lat W4.heap.size W4) => u.cell
        repeat (go_big_quiet_step (fail))
        refine wpQuiet_nil ?_
        intro w5 b5
        clear LC
        have HB5 := Lib.hid (HB4.out.trans (b5.mono (by omega)))
        have HO5 := Lib.hid (own_below HO4.out b5)
        clear y0 y1 y2 y3 hy
        clear b5 c0 c1 c2 c3 c4
        have y0 := box_at HB5.out 0 _ rfl
        have y1 := box_at HB5.out 1 _ rfl
        have y2 := box_at HB5.out 2 _ rfl
        have y3 := box_at HB5.out 3 _ rfl
        have hy := box_lt HB5.out
        have HB6 := HB5
        have o6 := HO5.out
        rw [← HK.out] at o6
        have HO6 := Lib.hid o6
        clear o6
        go_wp2_with fail
        refine (CJ.out _ _ _ (Rd.of_own HO6.out)).mono ?_
        rintro e w7 ⟨rfl, b7⟩
        have HB7 := Lib.hid (HB6.out.trans (b7.mono (by have := box_lt HB6.out; omega)))
        have HO7 := Lib.hid (own_mono (base' := w.heap.size) (own_below HO6.out b7) (by omega))
        go_wp2
        go_ret2
        refine ⟨_, rfl, ?_, box_below HB7.out⟩
        rw [HPL.out]
        exact HO7.out

set_option maxRecDepth 20000 in
set_option maxHeartbeats 4000000 in
theorem stepAuction6 (A : Option Addr) (n c : Nat) (xs : List R5) (i b v : Int) (w : World) (hn : xs.length = n) (hA : Rd w A (cells5 xs)) (hv : auc xs = true) (hs : stepB 6 i b v = true) :
    Calls Try.prog 20 #[.slice A n c, .agg #[.int .i64 6, .int .i64 i, .int .i64 b, .int .i64 v]] w (RetOwnB 36 5 (stL xs 6 i b v).length (cells5 (stL xs 6 i b v)) (stB xs 6 i b v) w) := by
  have n8 : n ≤ 8 := by have := auc_len hv; omega
  have CC := Lib.hid (fun w h => cloneSaleLot_any A n c (cells5 xs) w (by rw [length_cells5, hn]) h (oneCell_cells5 xs) (by omega))
  have CB := Lib.hid (fun w h => binSale_any A n c xs i w hn h hv)
  have CI := Lib.hid (fun A2 n2 c2 xs2 w2 h1 h2 h3 => isAuction_any A2 n2 c2 xs2 w2 h1 h2 h3)
  have HA := Lib.hid hA
  have HN := Lib.hid hn
  have HV := Lib.hid hv
  have HL : Hid ((cells5 xs).length = n * 5) := Lib.hid (by rw [length_cells5, hn])
  clear hA
  rcases find_cases hv i with ⟨hi, hh⟩ | ⟨j, x, hi, hp, hh, hj, hx, ha⟩
  · rw [hh] at CB
    obtain ⟨e1, e2⟩ := st_no (stO_236n b v (.inr (.inr rfl)) hi)
    rw [e1, e2]
    clear e1 e2
    clear hi hh hs hn
    go_enter Try.func20, Try.ntmps20
    go_wp2_with fail
    refine (CC.out _ (HA.out.alloc _)).mono ?_
    rintro e w1 ⟨v1, rfl, o1, b1⟩
    have HB1 : Hid (Below (w.heap.size + 1) (w.alloc (.cells #[.int .i64 6, .int .i64 i, .int .i64 b, .int .i64 v] 26)) w1) := Lib.hid ((Below.refl _ _).trans (b1.mono (by simp)))
    have HO1 := Lib.hid (own_mono (base' := w.heap.size + 1) o1 (by simp))
    clear o1 b1
    have y0 := box_at HB1.out 0 _ rfl
    have y1 := box_at HB1.out 1 _ rfl
    have y2 := box_at HB1.out 2 _ rfl
    have y3 := box_at HB1.out 3 _ rfl
    have hy := box_lt HB1.out
    go_wp2_with fail
    refine (CB.out _ (HA.out.below (box_below HB1.out))).mono ?_
    rintro e w2 ⟨rfl, b2⟩
    have HB2 := Lib.hid (HB1.out.trans (b2.mono (by omega)))
    have HO2 := Lib.hid (own_below HO1.out b2)
    clear y0 y1 y2 y3 hy
    clear b2
    have y0 := box_at HB2.out 0 _ rfl
    have y1 := box_at HB2.out 1 _ rfl
    have y2 := box_at HB2.out 2 _ rfl
    have y3 := box_at HB2.out 3 _ rfl
    have hy := box_lt HB2.out
    go_wp2
    go_ret2
    exact ⟨_, rfl, World.ownsRow_nil _ _ _ _, box_below HB2.out⟩
  · rw [hp, hh] at CB
    obtain ⟨g, o, hAe, hg0, -, -, -, -, -⟩ := HA.out.at5 hx
    subst hAe
    have HX := Lib.hid hx
    have hj5 : j < n := by omega
    subst ha
    have HST := Lib.hid (stO_6 b v hi hx)
    have CJ := Lib.hid (fun A2 c2 w2 h => isAuction_any A2 n c2 (xs.set j ⟨x.a, x.b, 0, 0, 0⟩) w2 (by rw [List.length_set, hn]) h (by omega))
    rw [again_auc hv hx] at CJ
    have HPL := Lib.hid (show (xs.set j ⟨x.a, x.b, 0, 0, 0⟩).length = n by rw [List.length_set, hn])
    have HSET := Lib.hid (setAll_cells5 (y := ⟨x.a, x.b, 0, 0, 0⟩) hx)
    have HSZ := Lib.hid size36
    clear hp hi hh hs hv
    by_cases hc : x.c = 3
    · have hcd : (x.c == 3) = true := by simp [hc]
      obtain ⟨e1, e2⟩ := st_yes (HST.out.trans (if_pos hc))
      rw [e1, e2]
      clear e1 e2
      clear hc hx hj hn
      go_enter Try.func20, Try.ntmps20
      go_wp2_with fail
      refine (CC.out _ (HA.out.alloc _)).mono ?_
      rintro e w1 ⟨v1, rfl, o1, b1⟩
      have HB1 : Hid (Below (w.heap.size + 1) (w.alloc (.cells #[.int .i64 6, .int .i64 x.a, .int .i64 b, .int .i64 v] 26)) w1) := Lib.hid ((Below.refl _ _).trans (b1.mono (by simp)))
      have o1' := own_mono (base' := w.heap.size + 1) o1 (by simp)
      obtain ⟨g1, cap1, rfl, hg1, hg1'⟩ := own_some o1' (by omega)
      have HO1 := Lib.hid o1'
      clear o1 o1' b1
      have y0 := box_at HB1.out 0 _ rfl
      have y1 := box_at HB1.out 1 _ rfl
      have y2 := box_at HB1.out 2 _ rfl
      have y3 := box_at HB1.out 3 _ rfl
      have hy := box_lt HB1.out
      go_wp2_with fail
      refine (CB.out _ (HA.out.below (box_below HB1.out))).mono ?_
      rintro e w2 ⟨rfl, b2⟩
      have HB2 := Lib.hid (HB1.out.trans (b2.mono (by omega)))
      have HO2 := Lib.hid (own_below HO1.out b2)
      clear y0 y1 y2 y3 hy
      clear b2
      have y0 := box_at HB2.out 0 _ rfl
      have y1 := box_at HB2.out 1 _ rfl
      have y2 := box_at HB2.out 2 _ rfl
      have y3 := box_at HB2.out 3 _ rfl
      have hy := box_lt HB2.out
      have hne : ¬ g = g1 := by omega
      have hne2 : ¬ g1 = g := by omega
      have hgw : g1 < w2.heap.size := (HO2.out.lt _ rfl).2
      have hbx : ¬ w.heap.size = g1 := by omega
      have hbx2 : ¬ g1 = w.heap.size := by omega
      obtain ⟨g', o', hAe, hg, c0, c1, c2, c3, c4⟩ := (HA.out.below (box_below HB2.out)).at5 HX.out
      injection hAe with hAe
      injection hAe with q1 q2
      subst q1; subst q2
      have hth := own_there HO2.out (j * 5 + 0) 1 (by omega)
      obtain ⟨⟨ud0, dd0⟩, ff0⟩ := (hth 0 (by omega)).imp_left Option.isSome_iff_exists.1
      simp only [Nat.add_zero] at dd0 ff0
      clear hth
      have hth := own_there HO2.out (j * 5 + 1) 1 (by omega)
      obtain ⟨⟨ud1, dd1⟩, ff1⟩ := (hth 0 (by omega)).imp_left Option.isSome_iff_exists.1
      simp only [Nat.add_zero] at dd1 ff1
      clear hth
      have hth := own_there HO2.out (j * 5 + 2) 1 (by omega)
      obtain ⟨⟨ud2, dd2⟩, ff2⟩ := (hth 0 (by omega)).imp_left Option.isSome_iff_exists.1
      simp only [Nat.add_zero] at dd2 ff2
      clear hth
      have hth := own_there HO2.out (j * 5 + 3) 1 (by omega)
      obtain ⟨⟨ud3, dd3⟩, ff3⟩ := (hth 0 (by omega)).imp_left Option.isSome_iff_exists.1
      simp only [Nat.add_zero] at dd3 ff3
      clear hth
      have hth := own_there HO2.out (j * 5 + 4) 1 (by omega)
      obtain ⟨⟨ud4, dd4⟩, ff4⟩ := (hth 0 (by omega)).imp_left Option.isSome_iff_exists.1
      simp only [Nat.add_zero] at dd4 ff4
      clear hth
      have HS := Lib.hid (own_setCells [.int .i64 x.a, .int .i64 x.b, .int .i64 0, .int .i64 0, .int .i64 0] HO2.out (j * 5))
      have HB3 : Hid (Below (w.heap.size + 1) (w.alloc (.cells #[.int .i64 6, .int .i64 x.a, .int .i64 b, .int .i64 v] 26)) ((((((w2.setCell ⟨g1, j * 5, none⟩ (.int .i64 x.a)).setCell ⟨g1, j * 5 + 1, none⟩ (.int .i64 x.b)).setCell ⟨g1, j * 5 + 2, none⟩ (.int .i64 0)).setCell ⟨g1, j * 5 + 3, none⟩ (.int .i64 0)).setCell ⟨g1, j * 5 + 4, none⟩ (.int .i64 0)).drew)) := Lib.hid (by have h := (HB2.out.grown HS.out.2 (by show w.heap.size + 1 ≤ w2.heap.size; omega) (fun q hq => by injection hq with hq; omega)).drew; exact h)
      go_wp2_with fail
      go_region
      all_goals go_goals
      have o3 := drew_own HS.out.1
      rw [show ([.int .i64 x.a, .int .i64 x.b, .int .i64 0, .int .i64 0, .int .i64 0] : List Value) = (⟨x.a, x.b, 0, 0, 0⟩ : R5).cells from rfl, HSET.out] at o3
      have HO3 : Hid (World.ownsRow ((((((w2.setCell ⟨g1, j * 5, none⟩ (.int .i64 x.a)).setCell ⟨g1, j * 5 + 1, none⟩ (.int .i64 x.b)).setCell ⟨g1, j * 5 + 2, none⟩ (.int .i64 0)).setCell ⟨g1, j * 5 + 3, none⟩ (.int .i64 0)).setCell ⟨g1, j * 5 + 4, none⟩ (.int .i64 0)).drew) (w.heap.size + 1) 36 5 (.slice (some ⟨g1, 0, none⟩) n cap1) n (cells5 (xs.set j ⟨x.a, x.b, 0, 0, 0⟩))) := Lib.hid o3
      clear o3
      go_wp2_with fail
      refine (CJ.out _ _ _ (Rd.of_own HO3.out)).mono ?_
      rintro e w4 ⟨rfl, b4⟩
      have HB4 := Lib.hid (HB3.out.trans (b4.mono (by have := box_lt HB3.out; omega)))
      have HO4 := Lib.hid (own_mono (base' := w.heap.size) (own_below HO3.out b4) (by omega))
      go_wp2
      go_ret2
      refine ⟨_, rfl, ?_, box_below HB4.out⟩
      rw [HPL.out]
      exact HO4.out
    · have hcd : (x.c == 3) = false := by simp [hc]
      obtain ⟨e1, e2⟩ := st_no (HST.out.trans (if_neg hc))
      rw [e1, e2]
      clear e1 e2
      clear hc hx hj hn
      go_enter Try.func20, Try.ntmps20
      go_wp2_with fail
      refine (CC.out _ (HA.out.alloc _)).mono ?_
      rintro e w1 ⟨v1, rfl, o1, b1⟩
      have HB1 : Hid (Below (w.heap.size + 1) (w.alloc (.cells #[.int .i64 6, .int .i64 x.a, .int .i64 b, .int .i64 v] 26)) w1) := Lib.hid ((Below.refl _ _).trans (b1.mono (by simp)))
      have o1' := own_mono (base' := w.heap.size + 1) o1 (by simp)
      obtain ⟨g1, cap1, rfl, hg1, hg1'⟩ := own_some o1' (by omega)
      have HO1 := Lib.hid o1'
      clear o1 o1' b1
      have y0 := box_at HB1.out 0 _ rfl
      have y1 := box_at HB1.out 1 _ rfl
      have y2 := box_at HB1.out 2 _ rfl
      have y3 := box_at HB1.out 3 _ rfl
      have hy := box_lt HB1.out
      go_wp2_with fail
      refine (CB.out _ (HA.out.below (box_below HB1.out))).mono ?_
      rintro e w2 ⟨rfl, b2⟩
      have HB2 := Lib.hid (HB1.out.trans (b2.mono (by omega)))
      have HO2 := Lib.hid (own_below HO1.out b2)
      clear y0 y1 y2 y3 hy
      clear b2
      have y0 := box_at HB2.out 0 _ rfl
      have y1 := box_at HB2.out 1 _ rfl
      have y2 := box_at HB2.out 2 _ rfl
      have y3 := box_at HB2.out 3 _ rfl
      have hy := box_lt HB2.out
      have hne : ¬ g = g1 := by omega
      have hne2 : ¬ g1 = g := by omega
      have hgw : g1 < w2.heap.size := (HO2.out.lt _ rfl).2
      have hbx : ¬ w.heap.size = g1 := by omega
      have hbx2 : ¬ g1 = w.heap.size := by omega
      obtain ⟨g', o', hAe, hg, c0, c1, c2, c3, c4⟩ := (HA.out.below (box_below HB2.out)).at5 HX.out
      injection hAe with hAe
      injection hAe with q1 q2
      subst q1; subst q2
      have hth := own_there HO2.out (j * 5 + 0) 1 (by omega)
      obtain ⟨⟨ud0, dd0⟩, ff0⟩ := (hth 0 (by omega)).imp_left Option.isSome_iff_exists.1
      simp only [Nat.add_zero] at dd0 ff0
      clear hth
      have hth := own_there HO2.out (j * 5 + 1) 1 (by omega)
      obtain ⟨⟨ud1, dd1⟩, ff1⟩ := (hth 0 (by omega)).imp_left Option.isSome_iff_exists.1
      simp only [Nat.add_zero] at dd1 ff1
      clear hth
      have hth := own_there HO2.out (j * 5 + 2) 1 (by omega)
      obtain ⟨⟨ud2, dd2⟩, ff2⟩ := (hth 0 (by omega)).imp_left Option.isSome_iff_exists.1
      simp only [Nat.add_zero] at dd2 ff2
      clear hth
      have hth := own_there HO2.out (j * 5 + 3) 1 (by omega)
      obtain ⟨⟨ud3, dd3⟩, ff3⟩ := (hth 0 (by omega)).imp_left Option.isSome_iff_exists.1
      simp only [Nat.add_zero] at dd3 ff3
      clear hth
      have hth := own_there HO2.out (j * 5 + 4) 1 (by omega)
      obtain ⟨⟨ud4, dd4⟩, ff4⟩ := (hth 0 (by omega)).imp_left Option.isSome_iff_exists.1
      simp only [Nat.add_zero] at dd4 ff4
      clear hth
      have HS := Lib.hid (own_setCells [.int .i64 x.a, .int .i64 x.b, .int .i64 0, .int .i64 0, .int .i64 0] HO2.out (j * 5))
      have HB3 : Hid (Below (w.heap.size + 1) (w.alloc (.cells #[.int .i64 6, .int .i64 x.a, .int .i64 b, .int .i64 v] 26)) ((((((w2.setCell ⟨g1, j * 5, none⟩ (.int .i64 x.a)).setCell ⟨g1, j * 5 + 1, none⟩ (.int .i64 x.b)).setCell ⟨g1, j * 5 + 2, none⟩ (.int .i64 0)).setCell ⟨g1, j * 5 + 3, none⟩ (.int .i64 0)).setCell ⟨g1, j * 5 + 4, none⟩ (.int .i64 0)).drew)) := Lib.hid (by have h := (HB2.out.grown HS.out.2 (by show w.heap.size + 1 ≤ w2.heap.size; omega) (fun q hq => by injection hq with hq; omega)).drew; exact h)
      go_wp2_with fail
      go_region
      all_goals go_goals
      go_wp2
      go_ret2
      exact ⟨_, rfl, World.ownsRow_nil _ _ _ _, box_below HB3.out⟩

end Go.Proofs.Ytjnbcippipookaa
