/- A step of an auction: the reference: a lot taken out. -/
import Derived.Test.YtjnbcippipookaaAuM
namespace Go.Proofs.Ytjnbcippipookaa
set_option linter.unusedVariables false
set_option linter.unusedSimpArgs false
open Go.RowKit

set_option maxRecDepth 20000 in
set_option maxHeartbeats 4000000 in
theorem l29Make2 (A : Option Addr) (n c : Nat) (xs : List R5) (i b v : Int) (w : World) (hn : xs.length = n) (hA : Rd w A (cells5 xs)) (hv : auc xs = true) (hc : n ≤ c) (hcm : c ≤ maxLen) :
    Calls Try.prog 23 #[.slice A n c, .agg #[.int .i64 2, .int .i64 i, .int .i64 b, .int .i64 v]] w (RetMk (stB xs 2 i b v) (stL xs 2 i b v) w) := by
  have n8 : n ≤ 8 := by have := auc_len hv; omega
  have CF := Lib.hid (fun w h => l29Find_any A n c xs i w hn h (by omega))
  have HA := Lib.hid hA
  clear hA
  rcases find_cases hv i with ⟨hi, -⟩ | ⟨j, x, hi, -, -, hj, hx, -⟩
  · rw [hi] at CF
    obtain ⟨e1, -⟩ := st_no (stO_236n b v (by omega) hi : stO xs 2 i b v = none)
    rw [e1]
    clear e1
    obtain ⟨L1, hL1⟩ : ∃ L1, L1 = stL xs 2 i b v := ⟨_, rfl⟩
    rw [← hL1]
    clear hL1
    clear hi hn hv
    go_enter Try.func23, Try.ntmps23
    go_wp2_with fail
    refine (CF.out _ (HA.out.alloc _)).mono ?_
    rintro e w1 ⟨rfl, rfl⟩
    go_wp2
    go_ret2
    exact ⟨_, [], rfl, own_empty' (by simp) (by simp), by simp, (hbw _).alloc (by simp) _⟩
  · rw [hi] at CF
    obtain ⟨g, o, hAe, hg, c0, c1, c2, c3, c4⟩ := (HA.out.alloc (.cells #[.int .i64 2, .int .i64 i, .int .i64 b, .int .i64 v] 26)).at5 hx
    subst hAe
    have hj5 : j < n := by omega
    have hj0 : (0 : Int) ≤ (j : Int) := by omega
    have hjn : (j : Int) < (n : Int) := by omega
    have HST := Lib.hid (stO_2 b v hi hx)
    have HN := Lib.hid hn
    by_cases hcn : c = j + 1
    · have hn1 : n = j + 1 := by omega
      obtain rfl : c = n := by omega
      have HN1 := Lib.hid hn1
      clear hn1 hcn
      by_cases h1 : x.c = 0
      · have h1d : (x.c == 0) = true := by simp [h1]
        obtain ⟨e1, e2⟩ := st_yes (HST.out.trans (if_pos h1))
        rw [e1, e2]
        clear e1 e2
        clear hi hv hn hx
        have H1 := Lib.hid h1
        clear h1
        go_enter Try.func23, Try.ntmps23
        go_wp2_with fail
        refine (CF.out _ (HA.out.alloc _)).mono ?_
        rintro e w1 ⟨rfl, rfl⟩
        go_wp2_with fail
        obtain ⟨w3, hw3⟩ : ∃ w3, w3 = ((w.alloc (.cells #[.int .i64 2, .int .i64 i, .int .i64 b, .int .i64 v] 26)).alloc (.cells #[.int .i64 x.a, .int .i64 x.b, .int .i64 x.c, .int .i64 x.d, .int .i64 x.e] 36)) := ⟨_, rfl⟩
        have ZC : Hid (w3.cell? ⟨w.heap.size + 1, 2, none⟩ = some (.int .i64 x.c)) := Lib.hid (by rw [hw3]; exact World.cell?_alloc_at _ _ _ _ (by simp))
        have HB3 : Hid (Below w.heap.size w w3) := Lib.hid (by rw [hw3]; exact box_k2 _ _ _)
        have hzs : w.heap.size + 1 < w3.heap.size := by rw [hw3]; simp
        rw [← hw3]
        clear hw3 c0 c1 c2 c3 c4
        have HR3 := Lib.hid (HA.out.below HB3.out)
        have HK5 := Lib.hid (show (cells5 (xs.take j)).length = j * 5 by have h1 := HN.out; have h2 := length_cells5 (xs.take j); rw [List.length_take] at h2; omega)
        have HD5 := Lib.hid (show (cells5 (xs.drop (j + 1))).length = 0 * 5 by have h1 := HN.out; have h2 := length_cells5 (xs.drop (j + 1)); rw [List.length_drop] at h2; have h0 := HN1.out; omega)
        have HS0 := Lib.hid (Nat.le_refl w3.heap.size)
        have OA : Hid (((w3.alloc (.cells #[] 36)).drew).ownsRow w3.heap.size 36 5 (.slice (some ⟨w3.heap.size, 0, none⟩) 0 0) 0 []) := Lib.hid (own_empty w3 _ _ _ (Nat.le_refl _))
        have BBA : Hid (Below w3.heap.size w3 ((w3.alloc (.cells #[] 36)).drew)) := Lib.hid ((Below.refl _ _).alloc (Nat.le_refl _) _).drew
        have RAA : Hid (Rd ((w3.alloc (.cells #[] 36)).drew) (some ⟨g, o, none⟩) (cells5 (xs.take j))) := Lib.hid (rd_takeT (HR3.out.below BBA.out) j)
        have zc := ZC.out
        have hk2 : (j : Int) ≤ (c : Int) := by omega
        have hk3 : j ≤ c := by omega
        have hn1 := HN1.out
        have hw1 : IntKind.i64.wrap ((j : Int) + 1) = (c : Int) := (IntWalk.i64_in _ (by omega)).trans (by omega)
        clear hn1
        go_region_held3 (fun w' => w'.cell? ⟨w.heap.size + 1, 2, none⟩ = some (.int .i64 x.c)) (first | go_keep | exact ZC.out | exact (B5.cell (p := ⟨w.heap.size + 1, 2, none⟩) hzs).trans ZC.out | exact (B4.cell (p := ⟨w.heap.size + 1, 2, none⟩) hzs).trans ZC.out | exact (BBA.out.cell (p := ⟨w.heap.size + 1, 2, none⟩) hzs).trans ZC.out) (first
  | (refine step_app rfl (.tmp 59) (.tmp 62) 24 rfl w3.heap.size 36 _ 5 40 Try.underlying24 info36 rfl (by omega) (.slice (some ⟨w3.heap.size, 0, none⟩) 0 0) 0 [] (by simp [Act.eval, Act.put]) (by with_reducible exact OA.out) (some ⟨g, o, none⟩) j c (cells5 (xs.take j)) (by simp [Act.eval, Act.put]) HK5.out (RAA.out) (oneCell_cells5 _) (by unfold maxLen; omega) (by omega) (by first | exact HS0.out | (simp <;> omega)) ?_; intro v4 w4 o4 g4w _; have B4 := BBA.out.grown g4w BBA.out.size (fun j hj => (OA.out.lt j hj).1))
  | (refine step_app rfl (.tmp 63) (.tmp 67) 24 rfl w3.heap.size 36 _ 5 40 Try.underlying24 info36 rfl (by omega) v4 _ _ (by simp [Act.eval, Act.put]) (by with_reducible exact o4) (some ⟨g, o, none⟩) 0 0 (cells5 (xs.drop (j + 1))) (by simp [Act.eval, Act.put]) HD5.out (by have h1 := HN.out; rw [List.drop_eq_nil_of_le (by have := HN1.out; omega)]; exact .inl rfl) (oneCell_cells5 _) (by unfold maxLen; omega) (by omega) (by first | exact B4.size | (simp <;> omega)) ?_; intro v5 w5 o5 g5w _; have B5 : Below w3.heap.size w3 w5 := B4.grown g5w B4.size (fun j hj => (o4.lt j hj).1)))
        all_goals go_goals
        all_goals (
          have EC : [] ++ cells5 (xs.take j) ++ cells5 (xs.drop (j + 1)) = cells5 (xs.eraseIdx j) := by rw [List.eraseIdx_eq_take_drop_succ, cells5_append, List.nil_append]
          have EN : 0 + j + 0 = (xs.eraseIdx j).length := by have := HN.out; have h0 := HN1.out; rw [List.length_eraseIdx]; split <;> omega
          rw [EC, EN] at o5
          have HB5 := Lib.hid (HB3.out.trans (B5.mono HB3.out.size))
          have HO5 := Lib.hid (own_mono o5 HB3.out.size)
          clear EC EN o5 o4 g4w g5w B4 B5 OA BBA RAA
          go_wp2
          go_ret2
          exact ⟨_, _, rfl, HO5.out, fun _ => rfl, HB5.out⟩)
      · have h1d : (x.c == 0) = false := by simp [h1]
        obtain ⟨e1, -⟩ := st_no (HST.out.trans (if_neg h1))
        rw [e1]
        clear e1
        obtain ⟨L1, hL1⟩ : ∃ L1, L1 = stL xs 2 i b v := ⟨_, rfl⟩
        rw [← hL1]
        clear hL1
        clear hi hv hn hx
        have H1 := Lib.hid h1
        clear h1
        go_enter Try.func23, Try.ntmps23
        go_wp2_with fail
        refine (CF.out _ (HA.out.alloc _)).mono ?_
        rintro e w1 ⟨rfl, rfl⟩
        go_wp2_with fail
        obtain ⟨w3, hw3⟩ : ∃ w3, w3 = ((w.alloc (.cells #[.int .i64 2, .int .i64 i, .int .i64 b, .int .i64 v] 26)).alloc (.cells #[.int .i64 x.a, .int .i64 x.b, .int .i64 x.c, .int .i64 x.d, .int .i64 x.e] 36)) := ⟨_, rfl⟩
        have ZC : Hid (w3.cell? ⟨w.heap.size + 1, 2, none⟩ = some (.int .i64 x.c)) := Lib.hid (by rw [hw3]; exact World.cell?_alloc_at _ _ _ _ (by simp))
        have HB3 : Hid (Below w.heap.size w w3) := Lib.hid (by rw [hw3]; exact box_k2 _ _ _)
        have hzs : w.heap.size + 1 < w3.heap.size := by rw [hw3]; simp
        rw [← hw3]
        clear hw3 c0 c1 c2 c3 c4
        have HR3 := Lib.hid (HA.out.below HB3.out)
        have HK5 := Lib.hid (show (cells5 (xs.take j)).length = j * 5 by have h1 := HN.out; have h2 := length_cells5 (xs.take j); rw [List.length_take] at h2; omega)
        have HD5 := Lib.hid (show (cells5 (xs.drop (j + 1))).length = 0 * 5 by have h1 := HN.out; have h2 := length_cells5 (xs.drop (j + 1)); rw [List.length_drop] at h2; have h0 := HN1.out; omega)
        have HS0 := Lib.hid (Nat.le_refl w3.heap.size)
        have OA : Hid (((w3.alloc (.cells #[] 36)).drew).ownsRow w3.heap.size 36 5 (.slice (some ⟨w3.heap.size, 0, none⟩) 0 0) 0 []) := Lib.hid (own_empty w3 _ _ _ (Nat.le_refl _))
        have BBA : Hid (Below w3.heap.size w3 ((w3.alloc (.cells #[] 36)).drew)) := Lib.hid ((Below.refl _ _).alloc (Nat.le_refl _) _).drew
        have RAA : Hid (Rd ((w3.alloc (.cells #[] 36)).drew) (some ⟨g, o, none⟩) (cells5 (xs.take j))) := Lib.hid (rd_takeT (HR3.out.below BBA.out) j)
        have zc := ZC.out
        have hk2 : (j : Int) ≤ (c : Int) := by omega
        have hk3 : j ≤ c := by omega
        have hn1 := HN1.out
        have hw1 : IntKind.i64.wrap ((j : Int) + 1) = (c : Int) := (IntWalk.i64_in _ (by omega)).trans (by omega)
        clear hn1
        go_region_held3 (fun w' => w'.cell? ⟨w.heap.size + 1, 2, none⟩ = some (.int .i64 x.c)) (first | go_keep | exact ZC.out | exact (B5.cell (p := ⟨w.heap.size + 1, 2, none⟩) hzs).trans ZC.out | exact (B4.cell (p := ⟨w.heap.size + 1, 2, none⟩) hzs).trans ZC.out | exact (BBA.out.cell (p := ⟨w.heap.size + 1, 2, none⟩) hzs).trans ZC.out) (first
  | (refine step_app rfl (.tmp 59) (.tmp 62) 24 rfl w3.heap.size 36 _ 5 40 Try.underlying24 info36 rfl (by omega) (.slice (some ⟨w3.heap.size, 0, none⟩) 0 0) 0 [] (by simp [Act.eval, Act.put]) (by with_reducible exact OA.out) (some ⟨g, o, none⟩) j c (cells5 (xs.take j)) (by simp [Act.eval, Act.put]) HK5.out (RAA.out) (oneCell_cells5 _) (by unfold maxLen; omega) (by omega) (by first | exact HS0.out | (simp <;> omega)) ?_; intro v4 w4 o4 g4w _; have B4 := BBA.out.grown g4w BBA.out.size (fun j hj => (OA.out.lt j hj).1))
  | (refine step_app rfl (.tmp 63) (.tmp 67) 24 rfl w3.heap.size 36 _ 5 40 Try.underlying24 info36 rfl (by omega) v4 _ _ (by simp [Act.eval, Act.put]) (by with_reducible exact o4) (some ⟨g, o, none⟩) 0 0 (cells5 (xs.drop (j + 1))) (by simp [Act.eval, Act.put]) HD5.out (by have h1 := HN.out; rw [List.drop_eq_nil_of_le (by have := HN1.out; omega)]; exact .inl rfl) (oneCell_cells5 _) (by unfold maxLen; omega) (by omega) (by first | exact B4.size | (simp <;> omega)) ?_; intro v5 w5 o5 g5w _; have B5 : Below w3.heap.size w3 w5 := B4.grown g5w B4.size (fun j hj => (o4.lt j hj).1)))
        all_goals go_goals
        all_goals (
          have EC : [] ++ cells5 (xs.take j) ++ cells5 (xs.drop (j + 1)) = cells5 (xs.eraseIdx j) := by rw [List.eraseIdx_eq_take_drop_succ, cells5_append, List.nil_append]
          have EN : 0 + j + 0 = (xs.eraseIdx j).length := by have := HN.out; have h0 := HN1.out; rw [List.length_eraseIdx]; split <;> omega
          rw [EC, EN] at o5
          have HB5 := Lib.hid (HB3.out.trans (B5.mono HB3.out.size))
          have HO5 := Lib.hid (own_mono o5 HB3.out.size)
          clear EC EN o5 o4 g4w g5w B4 B5 OA BBA RAA
          go_wp2
          go_ret2
          exact ⟨_, _, rfl, HO5.out, by simp, HB5.out⟩)
    · have hcn2 : ¬ j + 1 = c := fun h => hcn h.symm
      by_cases h1 : x.c = 0
      · have h1d : (x.c == 0) = true := by simp [h1]
        obtain ⟨e1, e2⟩ := st_yes (HST.out.trans (if_pos h1))
        rw [e1, e2]
        clear e1 e2
        clear hi hv hn hx
        have H1 := Lib.hid h1
        clear h1
        go_enter Try.func23, Try.ntmps23
        go_wp2_with fail
        refine (CF.out _ (HA.out.alloc _)).mono ?_
        rintro e w1 ⟨rfl, rfl⟩
        go_wp2_with fail
        obtain ⟨w3, hw3⟩ : ∃ w3, w3 = ((w.alloc (.cells #[.int .i64 2, .int .i64 i, .int .i64 b, .int .i64 v] 26)).alloc (.cells #[.int .i64 x.a, .int .i64 x.b, .int .i64 x.c, .int .i64 x.d, .int .i64 x.e] 36)) := ⟨_, rfl⟩
        have ZC : Hid (w3.cell? ⟨w.heap.size + 1, 2, none⟩ = some (.int .i64 x.c)) := Lib.hid (by rw [hw3]; exact World.cell?_alloc_at _ _ _ _ (by simp))
        have HB3 : Hid (Below w.heap.size w w3) := Lib.hid (by rw [hw3]; exact box_k2 _ _ _)
        have hzs : w.heap.size + 1 < w3.heap.size := by rw [hw3]; simp
        rw [← hw3]
        clear hw3 c0 c1 c2 c3 c4
        have HR3 := Lib.hid (HA.out.below HB3.out)
        have HK5 := Lib.hid (show (cells5 (xs.take j)).length = j * 5 by have h1 := HN.out; have h2 := length_cells5 (xs.take j); rw [List.length_take] at h2; omega)
        have HD5 := Lib.hid (show (cells5 (xs.drop (j + 1))).length = (n - (j + 1)) * 5 by have h1 := HN.out; have h2 := length_cells5 (xs.drop (j + 1)); rw [List.length_drop] at h2; omega)
        have HS0 := Lib.hid (Nat.le_refl w3.heap.size)
        have OA : Hid (((w3.alloc (.cells #[] 36)).drew).ownsRow w3.heap.size 36 5 (.slice (some ⟨w3.heap.size, 0, none⟩) 0 0) 0 []) := Lib.hid (own_empty w3 _ _ _ (Nat.le_refl _))
        have BBA : Hid (Below w3.heap.size w3 ((w3.alloc (.cells #[] 36)).drew)) := Lib.hid ((Below.refl _ _).alloc (Nat.le_refl _) _).drew
        have RAA : Hid (Rd ((w3.alloc (.cells #[] 36)).drew) (some ⟨g, o, none⟩) (cells5 (xs.take j))) := Lib.hid (rd_takeT (HR3.out.below BBA.out) j)
        have zc := ZC.out
        have hk2 : (j : Int) ≤ (c : Int) := by omega
        have hk3 : j ≤ c := by omega
        have hw1 : IntKind.i64.wrap ((j : Int) + 1) = (j : Int) + 1 := IntWalk.i64_in _ (by omega)
        have hk4 : (j : Int) + 1 ≤ (n : Int) := by omega
        have hk5 : (j : Int) + 1 ≤ (c : Int) := by omega
        have hk6 : j + 1 ≤ c := by omega
        have hk7 : (0 : Int) ≤ (j : Int) + 1 := by omega
        go_region_held3 (fun w' => w'.cell? ⟨w.heap.size + 1, 2, none⟩ = some (.int .i64 x.c)) (first | go_keep | exact ZC.out | exact (B5.cell (p := ⟨w.heap.size + 1, 2, none⟩) hzs).trans ZC.out | exact (B4.cell (p := ⟨w.heap.size + 1, 2, none⟩) hzs).trans ZC.out | exact (BBA.out.cell (p := ⟨w.heap.size + 1, 2, none⟩) hzs).trans ZC.out) (first
  | (refine step_app rfl (.tmp 59) (.tmp 62) 24 rfl w3.heap.size 36 _ 5 40 Try.underlying24 info36 rfl (by omega) (.slice (some ⟨w3.heap.size, 0, none⟩) 0 0) 0 [] (by simp [Act.eval, Act.put]) (by with_reducible exact OA.out) (some ⟨g, o, none⟩) j c (cells5 (xs.take j)) (by simp [Act.eval, Act.put]) HK5.out (RAA.out) (oneCell_cells5 _) (by unfold maxLen; omega) (by omega) (by first | exact HS0.out | (simp <;> omega)) ?_; intro v4 w4 o4 g4w _; have B4 := BBA.out.grown g4w BBA.out.size (fun j hj => (OA.out.lt j hj).1))
  | (refine step_app rfl (.tmp 63) (.tmp 67) 24 rfl w3.heap.size 36 _ 5 40 Try.underlying24 info36 rfl (by omega) v4 _ _ (by simp [Act.eval, Act.put]) (by with_reducible exact o4) (some ⟨g, o + (j + 1) * 5, none⟩) (n - (j + 1)) (c - (j + 1)) (cells5 (xs.drop (j + 1))) (by simp [Act.eval, Act.put]) HD5.out (rd_dropT (HR3.out.below B4) (j + 1)) (oneCell_cells5 _) (by unfold maxLen; omega) (by omega) (by first | exact B4.size | (simp <;> omega)) ?_; intro v5 w5 o5 g5w _; have B5 : Below w3.heap.size w3 w5 := B4.grown g5w B4.size (fun j hj => (o4.lt j hj).1)))
        all_goals go_goals
        all_goals (
          have EC : [] ++ cells5 (xs.take j) ++ cells5 (xs.drop (j + 1)) = cells5 (xs.eraseIdx j) := by rw [List.eraseIdx_eq_take_drop_succ, cells5_append, List.nil_append]
          have EN : 0 + j + (n - (j + 1)) = (xs.eraseIdx j).length := by have := HN.out; rw [List.length_eraseIdx]; split <;> omega
          rw [EC, EN] at o5
          have HB5 := Lib.hid (HB3.out.trans (B5.mono HB3.out.size))
          have HO5 := Lib.hid (own_mono o5 HB3.out.size)
          clear EC EN o5 o4 g4w g5w B4 B5 OA BBA RAA
          go_wp2
          go_ret2
          exact ⟨_, _, rfl, HO5.out, fun _ => rfl, HB5.out⟩)
      · have h1d : (x.c == 0) = false := by simp [h1]
        obtain ⟨e1, -⟩ := st_no (HST.out.trans (if_neg h1))
        rw [e1]
        clear e1
        obtain ⟨L1, hL1⟩ : ∃ L1, L1 = stL xs 2 i b v := ⟨_, rfl⟩
        rw [← hL1]
        clear hL1
        clear hi hv hn hx
        have H1 := Lib.hid h1
        clear h1
        go_enter Try.func23, Try.ntmps23
        go_wp2_with fail
        refine (CF.out _ (HA.out.alloc _)).mono ?_
        rintro e w1 ⟨rfl, rfl⟩
        go_wp2_with fail
        obtain ⟨w3, hw3⟩ : ∃ w3, w3 = ((w.alloc (.cells #[.int .i64 2, .int .i64 i, .int .i64 b, .int .i64 v] 26)).alloc (.cells #[.int .i64 x.a, .int .i64 x.b, .int .i64 x.c, .int .i64 x.d, .int .i64 x.e] 36)) := ⟨_, rfl⟩
        have ZC : Hid (w3.cell? ⟨w.heap.size + 1, 2, none⟩ = some (.int .i64 x.c)) := Lib.hid (by rw [hw3]; exact World.cell?_alloc_at _ _ _ _ (by simp))
        have HB3 : Hid (Below w.heap.size w w3) := Lib.hid (by rw [hw3]; exact box_k2 _ _ _)
        have hzs : w.heap.size + 1 < w3.heap.size := by rw [hw3]; simp
        rw [← hw3]
        clear hw3 c0 c1 c2 c3 c4
        have HR3 := Lib.hid (HA.out.below HB3.out)
        have HK5 := Lib.hid (show (cells5 (xs.take j)).length = j * 5 by have h1 := HN.out; have h2 := length_cells5 (xs.take j); rw [List.length_take] at h2; omega)
        have HD5 := Lib.hid (show (cells5 (xs.drop (j + 1))).length = (n - (j + 1)) * 5 by have h1 := HN.out; have h2 := length_cells5 (xs.drop (j + 1)); rw [List.length_drop] at h2; omega)
        have HS0 := Lib.hid (Nat.le_refl w3.heap.size)
        have OA : Hid (((w3.alloc (.cells #[] 36)).drew).ownsRow w3.heap.size 36 5 (.slice (some ⟨w3.heap.size, 0, none⟩) 0 0) 0 []) := Lib.hid (own_empty w3 _ _ _ (Nat.le_refl _))
        have BBA : Hid (Below w3.heap.size w3 ((w3.alloc (.cells #[] 36)).drew)) := Lib.hid ((Below.refl _ _).alloc (Nat.le_refl _) _).drew
        have RAA : Hid (Rd ((w3.alloc (.cells #[] 36)).drew) (some ⟨g, o, none⟩) (cells5 (xs.take j))) := Lib.hid (rd_takeT (HR3.out.below BBA.out) j)
        have zc := ZC.out
        have hk2 : (j : Int) ≤ (c : Int) := by omega
        have hk3 : j ≤ c := by omega
        have hw1 : IntKind.i64.wrap ((j : Int) + 1) = (j : Int) + 1 := IntWalk.i64_in _ (by omega)
        have hk4 : (j : Int) + 1 ≤ (n : Int) := by omega
        have hk5 : (j : Int) + 1 ≤ (c : Int) := by omega
        have hk6 : j + 1 ≤ c := by omega
        have hk7 : (0 : Int) ≤ (j : Int) + 1 := by omega
        go_region_held3 (fun w' => w'.cell? ⟨w.heap.size + 1, 2, none⟩ = some (.int .i64 x.c)) (first | go_keep | exact ZC.out | exact (B5.cell (p := ⟨w.heap.size + 1, 2, none⟩) hzs).trans ZC.out | exact (B4.cell (p := ⟨w.heap.size + 1, 2, none⟩) hzs).trans ZC.out | exact (BBA.out.cell (p := ⟨w.heap.size + 1, 2, none⟩) hzs).trans ZC.out) (first
  | (refine step_app rfl (.tmp 59) (.tmp 62) 24 rfl w3.heap.size 36 _ 5 40 Try.underlying24 info36 rfl (by omega) (.slice (some ⟨w3.heap.size, 0, none⟩) 0 0) 0 [] (by simp [Act.eval, Act.put]) (by with_reducible exact OA.out) (some ⟨g, o, none⟩) j c (cells5 (xs.take j)) (by simp [Act.eval, Act.put]) HK5.out (RAA.out) (oneCell_cells5 _) (by unfold maxLen; omega) (by omega) (by first | exact HS0.out | (simp <;> omega)) ?_; intro v4 w4 o4 g4w _; have B4 := BBA.out.grown g4w BBA.out.size (fun j hj => (OA.out.lt j hj).1))
  | (refine step_app rfl (.tmp 63) (.tmp 67) 24 rfl w3.heap.size 36 _ 5 40 Try.underlying24 info36 rfl (by omega) v4 _ _ (by simp [Act.eval, Act.put]) (by with_reducible exact o4) (some ⟨g, o + (j + 1) * 5, none⟩) (n - (j + 1)) (c - (j + 1)) (cells5 (xs.drop (j + 1))) (by simp [Act.eval, Act.put]) HD5.out (rd_dropT (HR3.out.below B4) (j + 1)) (oneCell_cells5 _) (by unfold maxLen; omega) (by omega) (by first | exact B4.size | (simp <;> omega)) ?_; intro v5 w5 o5 g5w _; have B5 : Below w3.heap.size w3 w5 := B4.grown g5w B4.size (fun j hj => (o4.lt j hj).1)))
        all_goals go_goals
        all_goals (
          have EC : [] ++ cells5 (xs.take j) ++ cells5 (xs.drop (j + 1)) = cells5 (xs.eraseIdx j) := by rw [List.eraseIdx_eq_take_drop_succ, cells5_append, List.nil_append]
          have EN : 0 + j + (n - (j + 1)) = (xs.eraseIdx j).length := by have := HN.out; rw [List.length_eraseIdx]; split <;> omega
          rw [EC, EN] at o5
          have HB5 := Lib.hid (HB3.out.trans (B5.mono HB3.out.size))
          have HO5 := Lib.hid (own_mono o5 HB3.out.size)
          clear EC EN o5 o4 g4w g5w B4 B5 OA BBA RAA
          go_wp2
          go_ret2
          exact ⟨_, _, rfl, HO5.out, by simp, HB5.out⟩)
end Go.Proofs.Ytjnbcippipookaa
