/- A step of an auction: the reference: every step. -/
import Derived.Test.YtjnbcippipookaaAuS2
import Derived.Test.YtjnbcippipookaaAuT
namespace Go.Proofs.Ytjnbcippipookaa
set_option linter.unusedVariables false
set_option linter.unusedSimpArgs false
open Go.RowKit

set_option maxRecDepth 20000 in
set_option maxHeartbeats 4000000 in
theorem l29Make4 (A : Option Addr) (n c : Nat) (xs : List R5) (i b v : Int) (w : World) (hn : xs.length = n) (hA : Rd w A (cells5 xs)) (hv : auc xs = true) :
    Calls Try.prog 23 #[.slice A n c, .agg #[.int .i64 4, .int .i64 i, .int .i64 b, .int .i64 v]] w (RetMk (stB xs 4 i b v) (stL xs 4 i b v) w) := by
  have n8 : n ≤ 8 := by have := auc_len hv; omega
  have C := Lib.hid (fun w h => l29Sell4 A n c xs i b v w hn h hv)
  have HA := Lib.hid hA
  clear hA hv hn
  obtain ⟨L1, hL1⟩ : ∃ L1, L1 = stL xs 4 i b v := ⟨_, rfl⟩
  obtain ⟨ok, hok⟩ : ∃ ok, ok = stB xs 4 i b v := ⟨_, rfl⟩
  rw [← hL1, ← hok] at C ⊢
  clear hL1 hok
  go_enter Try.func23, Try.ntmps23
  go_wp2_with fail
  refine (C.out _ (HA.out.alloc _)).mono ?_
  rintro e w1 ⟨v1, L2, rfl, o1, hk, b1⟩
  have HO := Lib.hid (own_mono (base' := w.heap.size) o1 (by simp))
  have HB := Lib.hid ((hbw _).trans (b1.mono (by simp)))
  have HK := Lib.hid hk
  clear o1 b1 hk
  go_wp2
  go_ret2
  exact ⟨_, L2, rfl, HO.out, HK.out, HB.out⟩

set_option maxRecDepth 20000 in
set_option maxHeartbeats 4000000 in
theorem l29Make5 (A : Option Addr) (n c : Nat) (xs : List R5) (i b v : Int) (w : World) (hn : xs.length = n) (hA : Rd w A (cells5 xs)) (hv : auc xs = true) :
    Calls Try.prog 23 #[.slice A n c, .agg #[.int .i64 5, .int .i64 i, .int .i64 b, .int .i64 v]] w (RetMk (stB xs 5 i b v) (stL xs 5 i b v) w) := by
  have n8 : n ≤ 8 := by have := auc_len hv; omega
  have C := Lib.hid (fun w h => l29Sell5 A n c xs i b v w hn h hv)
  have HA := Lib.hid hA
  clear hA hv hn
  obtain ⟨L1, hL1⟩ : ∃ L1, L1 = stL xs 5 i b v := ⟨_, rfl⟩
  obtain ⟨ok, hok⟩ : ∃ ok, ok = stB xs 5 i b v := ⟨_, rfl⟩
  rw [← hL1, ← hok] at C ⊢
  clear hL1 hok
  go_enter Try.func23, Try.ntmps23
  go_wp2_with fail
  refine (C.out _ (HA.out.alloc _)).mono ?_
  rintro e w1 ⟨v1, L2, rfl, o1, hk, b1⟩
  have HO := Lib.hid (own_mono (base' := w.heap.size) o1 (by simp))
  have HB := Lib.hid ((hbw _).trans (b1.mono (by simp)))
  have HK := Lib.hid hk
  clear o1 b1 hk
  go_wp2
  go_ret2
  exact ⟨_, L2, rfl, HO.out, HK.out, HB.out⟩

set_option maxRecDepth 20000 in
set_option maxHeartbeats 4000000 in
theorem l29Make1 (A : Option Addr) (n c : Nat) (xs : List R5) (i b v : Int) (w : World) (hn : xs.length = n) (hA : Rd w A (cells5 xs)) (hv : auc xs = true) (hc : n ≤ c) (hcm : c ≤ maxLen) :
    Calls Try.prog 23 #[.slice A n c, .agg #[.int .i64 1, .int .i64 i, .int .i64 b, .int .i64 v]] w (RetMk (stB xs 1 i b v) (stL xs 1 i b v) w) := by
  have n8 : n ≤ 8 := by have := auc_len hv; omega
  have CF := Lib.hid (fun w h => l29Find_any A n c xs i w hn h (by omega))
  have CP := Lib.hid (fun w h => l29Put_any A n c xs i v w hn h hv hc hcm)
  have HPL := Lib.hid (show (puA xs i v).length = n + 1 by rw [puA_len, hn])
  have CG := Lib.hid (fun A2 c2 w2 h => l29Good_any A2 (n + 1) c2 (puA xs i v) w2 HPL.out h (by omega))
  have HA := Lib.hid hA
  have HST := Lib.hid (stO_1 xs i b v)
  rcases find_cases hv i with ⟨hi, -⟩ | ⟨j, x, hi, -, -, hj, hx, -⟩
  · rw [hi] at CF HST
    cases hg : auc (puA xs i v) with
    | false =>
      rw [hg] at CG HST
      obtain ⟨e1, -⟩ := st_no (HST.out.trans (if_neg (by simp)))
      rw [e1]
      clear e1
      obtain ⟨L1, hL1⟩ : ∃ L1, L1 = stL xs 1 i b v := ⟨_, rfl⟩
      rw [← hL1]
      clear hL1
      clear hi hg hA hn hv hc hcm
      go_enter Try.func23, Try.ntmps23
      go_wp2_with fail
      refine (CF.out _ (HA.out.alloc _)).mono ?_
      rintro e w1 ⟨rfl, rfl⟩
      go_wp2_with fail
      refine (CP.out _ (HA.out.alloc _)).mono ?_
      rintro e w2 ⟨v2, rfl, o2, b2⟩
      obtain ⟨A2, c2, rfl⟩ := own_form o2
      have HO2 := Lib.hid o2
      have HB2 := Lib.hid b2
      clear o2 b2
      go_wp2_with fail
      refine (CG.out _ _ _ (Rd.of_own HO2.out)).mono ?_
      rintro e w3 ⟨rfl, b3⟩
      have HB3 := Lib.hid ((hbw _).trans ((HB2.out.mono (by simp)).trans (b3.mono (by have := HB2.out.size; simp at this; omega))))
      have HO3 := Lib.hid (own_mono (base' := w.heap.size) (own_below HO2.out b3) (by simp))
      clear b3
      go_wp2
      go_ret2
      exact ⟨_, _, rfl, own_len HO3.out HPL.out, by simp, HB3.out⟩
    | true =>
      rw [hg] at CG HST
      obtain ⟨e1, e2⟩ := st_yes (HST.out.trans (if_pos ⟨by omega, rfl⟩))
      rw [e1, e2]
      clear e1 e2
      clear hi hg hA hn hv hc hcm
      go_enter Try.func23, Try.ntmps23
      go_wp2_with fail
      refine (CF.out _ (HA.out.alloc _)).mono ?_
      rintro e w1 ⟨rfl, rfl⟩
      go_wp2_with fail
      refine (CP.out _ (HA.out.alloc _)).mono ?_
      rintro e w2 ⟨v2, rfl, o2, b2⟩
      obtain ⟨A2, c2, rfl⟩ := own_form o2
      have HO2 := Lib.hid o2
      have HB2 := Lib.hid b2
      clear o2 b2
      go_wp2_with fail
      refine (CG.out _ _ _ (Rd.of_own HO2.out)).mono ?_
      rintro e w3 ⟨rfl, b3⟩
      have HB3 := Lib.hid ((hbw _).trans ((HB2.out.mono (by simp)).trans (b3.mono (by have := HB2.out.size; simp at this; omega))))
      have HO3 := Lib.hid (own_mono (base' := w.heap.size) (own_below HO2.out b3) (by simp))
      clear b3
      go_wp2
      go_ret2
      exact ⟨_, _, rfl, own_len HO3.out HPL.out, fun _ => rfl, HB3.out⟩
  · rw [hi] at CF HST
    obtain ⟨e1, -⟩ := st_no (HST.out.trans (if_neg (fun h => by omega)))
    rw [e1]
    clear e1
    obtain ⟨L1, hL1⟩ : ∃ L1, L1 = stL xs 1 i b v := ⟨_, rfl⟩
    rw [← hL1]
    clear hL1
    have hj0 : (0 : Int) ≤ (j : Int) := by omega
    clear hi hA hn hv hc hcm hx
    go_enter Try.func23, Try.ntmps23
    go_wp2_with fail
    refine (CF.out _ (HA.out.alloc _)).mono ?_
    rintro e w1 ⟨rfl, rfl⟩
    go_wp2_with fail
    refine (CP.out _ (HA.out.alloc _)).mono ?_
    rintro e w2 ⟨v2, rfl, o2, b2⟩
    obtain ⟨A2, c2, rfl⟩ := own_form o2
    have HO2 := Lib.hid o2
    have HB2 := Lib.hid b2
    clear o2 b2
    have HB3 := Lib.hid ((hbw _).trans (HB2.out.mono (by simp)))
    have HO3 := Lib.hid (own_mono (base' := w.heap.size) HO2.out (by simp))
    go_wp2
    go_ret2
    exact ⟨_, _, rfl, own_len HO3.out HPL.out, by simp, HB3.out⟩

set_option maxRecDepth 20000 in
set_option maxHeartbeats 4000000 in
theorem l29Make3 (A : Option Addr) (n c : Nat) (xs : List R5) (i b v : Int) (w : World) (hn : xs.length = n) (hA : Rd w A (cells5 xs)) (hv : auc xs = true) :
    Calls Try.prog 23 #[.slice A n c, .agg #[.int .i64 3, .int .i64 i, .int .i64 b, .int .i64 v]] w (RetMk (stB xs 3 i b v) (stL xs 3 i b v) w) := by
  have n8 : n ≤ 8 := by have := auc_len hv; omega
  have CF := Lib.hid (fun w h => l29Find_any A n c xs i w hn h (by omega))
  have CO := Lib.hid (fun A w h => l29Open_any A n c xs w hn h (by omega))
  have HA := Lib.hid hA
  clear hA
  rcases find_cases hv i with ⟨hi, -⟩ | ⟨j, x, hi, -, -, hj, hx, -⟩
  · rw [hi] at CF
    obtain ⟨e1, -⟩ := st_no (stO_236n b v (by omega) hi : stO xs 3 i b v = none)
    rw [e1]
    clear e1
    obtain ⟨L1, hL1⟩ : ∃ L1, L1 = stL xs 3 i b v := ⟨_, rfl⟩
    rw [← hL1]
    clear hL1
    clear hi hn hv
    go_enter Try.func23, Try.ntmps23
    go_wp2_with fail
    refine (CF.out _ (HA.out.alloc _)).mono ?_
    rintro e w1 ⟨rfl, rfl⟩
    go_wp2
    go_ret2
    exact ⟨_, [], rfl, own_empty' (by simp) (by simp), by simp, (hbw _).alloc (by simp) _⟩
  · rw [hi] at CF
    obtain ⟨g, o, hAe, hg, c0, c1, c2, c3, c4⟩ := (HA.out.alloc (.cells #[.int .i64 3, .int .i64 i, .int .i64 b, .int .i64 v] 26)).at5 hx
    subst hAe
    have hj5 : j < n := by omega
    have hj0 : (0 : Int) ≤ (j : Int) := by omega
    have hjn : (j : Int) < (n : Int) := by omega
    have HST := Lib.hid (stO_3 b v hi hx)
    have CW := Lib.hid (fun w h => l29With_any (some ⟨g, o, none⟩) n c xs j { x with c := 1 } x w hn h (by omega) hx)
    have HPL := Lib.hid (show (xs.set j { x with c := 1 }).length = n by rw [List.length_set, hn])
    have HV := Lib.hid hv
    by_cases h1 : x.c = 0
    · have h1d : (x.c == 0) = true := by simp [h1]
      rcases open_cases hv with ho | ⟨j2, x2, ho, hj2, -, -, -⟩
      · rw [ho] at CO
        obtain ⟨e1, e2⟩ := st_yes (HST.out.trans (if_pos ⟨h1, by omega⟩))
        rw [e1, e2]
        clear e1 e2
        clear hi hv hn hx
        clear ho
        go_enter Try.func23, Try.ntmps23
        go_wp2_with fail
        refine (CF.out _ (HA.out.alloc _)).mono ?_
        rintro e w1 ⟨rfl, rfl⟩
        go_wp2_with fail
        refine (CO.out _ _ ((HA.out.alloc _).alloc _)).mono ?_
        rintro e w3 ⟨rfl, rfl⟩
        go_wp2_with fail
        refine (CW.out _ ((HA.out.alloc _).alloc _)).mono ?_
        rintro e w5 ⟨v5, rfl, o5, b5⟩
        have HB6 := Lib.hid (Below.trans (box_k2 _ _ _) (b5.mono (by simp <;> omega)))
        have HO6 := Lib.hid (own_mono (base' := w.heap.size) o5 (by simp <;> omega))
        clear o5 b5
        go_wp2
        go_ret2
        exact ⟨_, _, rfl, own_len HO6.out HPL.out, fun _ => rfl, HB6.out⟩
      · rw [ho] at CO
        have hj20 : (0 : Int) ≤ (j2 : Int) := by omega
        obtain ⟨e1, -⟩ := st_no (HST.out.trans (if_neg (fun h => by have := h.1; have := h.2; omega)))
        rw [e1]
        clear e1
        obtain ⟨L1, hL1⟩ : ∃ L1, L1 = stL xs 3 i b v := ⟨_, rfl⟩
        rw [← hL1]
        clear hL1
        clear hi hv hn hx
        go_enter Try.func23, Try.ntmps23
        go_wp2_with fail
        refine (CF.out _ (HA.out.alloc _)).mono ?_
        rintro e w1 ⟨rfl, rfl⟩
        go_wp2_with fail
        refine (CO.out _ _ ((HA.out.alloc _).alloc _)).mono ?_
        rintro e w3 ⟨rfl, rfl⟩
        go_wp2_with fail
        refine (CW.out _ ((HA.out.alloc _).alloc _)).mono ?_
        rintro e w5 ⟨v5, rfl, o5, b5⟩
        have HB6 := Lib.hid (Below.trans (box_k2 _ _ _) (b5.mono (by simp <;> omega)))
        have HO6 := Lib.hid (own_mono (base' := w.heap.size) o5 (by simp <;> omega))
        clear o5 b5
        go_wp2
        go_ret2
        exact ⟨_, _, rfl, own_len HO6.out HPL.out, by simp, HB6.out⟩
    · have h1d : (x.c == 0) = false := by simp [h1]
      obtain ⟨e1, -⟩ := st_no (HST.out.trans (if_neg (fun h => by have := h.1; have := h.2; omega)))
      rw [e1]
      clear e1
      obtain ⟨L1, hL1⟩ : ∃ L1, L1 = stL xs 3 i b v := ⟨_, rfl⟩
      rw [← hL1]
      clear hL1
      clear hi hv hn hx
      go_enter Try.func23, Try.ntmps23
      go_wp2_with fail
      refine (CF.out _ (HA.out.alloc _)).mono ?_
      rintro e w1 ⟨rfl, rfl⟩
      go_wp2_with fail
      refine (CW.out _ ((HA.out.alloc _).alloc _)).mono ?_
      rintro e w5 ⟨v5, rfl, o5, b5⟩
      have HB6 := Lib.hid (Below.trans (box_k2 _ _ _) (b5.mono (by simp <;> omega)))
      have HO6 := Lib.hid (own_mono (base' := w.heap.size) o5 (by simp <;> omega))
      clear o5 b5
      go_wp2
      go_ret2
      exact ⟨_, _, rfl, own_len HO6.out HPL.out, by simp, HB6.out⟩

set_option maxRecDepth 20000 in
set_option maxHeartbeats 4000000 in
theorem l29Make6 (A : Option Addr) (n c : Nat) (xs : List R5) (i b v : Int) (w : World) (hn : xs.length = n) (hA : Rd w A (cells5 xs)) (hv : auc xs = true) :
    Calls Try.prog 23 #[.slice A n c, .agg #[.int .i64 6, .int .i64 i, .int .i64 b, .int .i64 v]] w (RetMk (stB xs 6 i b v) (stL xs 6 i b v) w) := by
  have n8 : n ≤ 8 := by have := auc_len hv; omega
  have CF := Lib.hid (fun w h => l29Find_any A n c xs i w hn h (by omega))
  have HA := Lib.hid hA
  clear hA
  rcases find_cases hv i with ⟨hi, -⟩ | ⟨j, x, hi, -, -, hj, hx, -⟩
  · rw [hi] at CF
    obtain ⟨e1, -⟩ := st_no (stO_236n b v (by omega) hi : stO xs 6 i b v = none)
    rw [e1]
    clear e1
    obtain ⟨L1, hL1⟩ : ∃ L1, L1 = stL xs 6 i b v := ⟨_, rfl⟩
    rw [← hL1]
    clear hL1
    clear hi hn hv
    go_enter Try.func23, Try.ntmps23
    go_wp2_with fail
    refine (CF.out _ (HA.out.alloc _)).mono ?_
    rintro e w1 ⟨rfl, rfl⟩
    go_wp2
    go_ret2
    exact ⟨_, [], rfl, own_empty' (by simp) (by simp), by simp, (hbw _).alloc (by simp) _⟩
  · rw [hi] at CF
    obtain ⟨g, o, hAe, hg, c0, c1, c2, c3, c4⟩ := (HA.out.alloc (.cells #[.int .i64 6, .int .i64 i, .int .i64 b, .int .i64 v] 26)).at5 hx
    subst hAe
    have hj5 : j < n := by omega
    have hj0 : (0 : Int) ≤ (j : Int) := by omega
    have hjn : (j : Int) < (n : Int) := by omega
    have HST := Lib.hid (stO_6 b v hi hx)
    have CW := Lib.hid (fun w h => l29With_any (some ⟨g, o, none⟩) n c xs j ⟨x.a, x.b, 0, 0, 0⟩ x w hn h (by omega) hx)
    have HPL := Lib.hid (show (xs.set j ⟨x.a, x.b, 0, 0, 0⟩).length = n by rw [List.length_set, hn])
    by_cases h1 : x.c = 3
    · have h1d : (x.c == 3) = true := by simp [h1]
      obtain ⟨e1, e2⟩ := st_yes (HST.out.trans (if_pos h1))
      rw [e1, e2]
      clear e1 e2
      clear hi hv hn hx
      have H1 := Lib.hid h1
      clear h1
      go_enter Try.func23, Try.ntmps23
      go_wp2_with fail
      refine (CF.out _ (HA.out.alloc _)).mono ?_
      rintro e w1 ⟨rfl, rfl⟩
      go_wp2_with fail
      have Z0 : Hid (((w.alloc (.cells #[.int .i64 6, .int .i64 i, .int .i64 b, .int .i64 v] 26)).alloc (.cells #[.int .i64 x.a, .int .i64 x.b, .int .i64 x.c, .int .i64 x.d, .int .i64 x.e] 36)).cell? ⟨w.heap.size + 1, 0, none⟩ = some (.int .i64 x.a)) := Lib.hid (World.cell?_alloc_at _ _ _ _ (by simp))
      have Z1 : Hid (((w.alloc (.cells #[.int .i64 6, .int .i64 i, .int .i64 b, .int .i64 v] 26)).alloc (.cells #[.int .i64 x.a, .int .i64 x.b, .int .i64 x.c, .int .i64 x.d, .int .i64 x.e] 36)).cell? ⟨w.heap.size + 1, 1, none⟩ = some (.int .i64 x.b)) := Lib.hid (World.cell?_alloc_at _ _ _ _ (by simp))
      have Z2 : Hid (((w.alloc (.cells #[.int .i64 6, .int .i64 i, .int .i64 b, .int .i64 v] 26)).alloc (.cells #[.int .i64 x.a, .int .i64 x.b, .int .i64 x.c, .int .i64 x.d, .int .i64 x.e] 36)).cell? ⟨w.heap.size + 1, 2, none⟩ = some (.int .i64 x.c)) := Lib.hid (World.cell?_alloc_at _ _ _ _ (by simp))
      have BK : Hid (Below w.heap.size w ((w.alloc (.cells #[.int .i64 6, .int .i64 i, .int .i64 b, .int .i64 v] 26)).alloc (.cells #[.int .i64 x.a, .int .i64 x.b, .int .i64 x.c, .int .i64 x.d, .int .i64 x.e] 36))) := Lib.hid (box_k2 _ _ _)
      have HR := Lib.hid (((HA.out.alloc (.cells #[.int .i64 6, .int .i64 i, .int .i64 b, .int .i64 v] 26)).alloc (.cells #[.int .i64 x.a, .int .i64 x.b, .int .i64 x.c, .int .i64 x.d, .int .i64 x.e] 36)))
      have hzs : w.heap.size + 1 < ((w.alloc (.cells #[.int .i64 6, .int .i64 i, .int .i64 b, .int .i64 v] 26)).alloc (.cells #[.int .i64 x.a, .int .i64 x.b, .int .i64 x.c, .int .i64 x.d, .int .i64 x.e] 36)).heap.size := by simp
      go_region_held3 (fun w' => w'.cell? ⟨w.heap.size + 1, 0, none⟩ = some (.int .i64 x.a) ∧ w'.cell? ⟨w.heap.size + 1, 1, none⟩ = some (.int .i64 x.b) ∧ w'.cell? ⟨w.heap.size + 1, 2, none⟩ = some (.int .i64 x.c)) (first | go_keep | exact ⟨Z0.out, Z1.out, Z2.out⟩ | exact ⟨(b5.cell (p := ⟨w.heap.size + 1, 0, none⟩) hzs).trans Z0.out, (b5.cell (p := ⟨w.heap.size + 1, 1, none⟩) hzs).trans Z1.out, (b5.cell (p := ⟨w.heap.size + 1, 2, none⟩) hzs).trans Z2.out⟩) (first | (go_at_call 45; (with_reducible refine (CW.out _ (by first | exact HR.out | exact HR.out.drew)).mono ?_); rintro e w5 ⟨v5, rfl, o5, b5⟩))
      all_goals go_goals
      all_goals (
        have HB6 : Hid (Below w.heap.size w w5) := Lib.hid (by first | exact BK.out.trans (b5.mono BK.out.size) | exact BK.out.drew.trans (b5.mono BK.out.size))
        have HO6 := Lib.hid (own_mono (base' := w.heap.size) o5 BK.out.size)
        clear o5 b5
        go_wp2
        go_ret2
        exact ⟨_, _, rfl, own_len HO6.out HPL.out, fun _ => rfl, HB6.out⟩)
    · have h1d : (x.c == 3) = false := by simp [h1]
      obtain ⟨e1, -⟩ := st_no (HST.out.trans (if_neg h1))
      rw [e1]
      clear e1
      obtain ⟨L1, hL1⟩ : ∃ L1, L1 = stL xs 6 i b v := ⟨_, rfl⟩
      rw [← hL1]
      clear hL1
      clear hi hv hn hx
      have H1 := Lib.hid h1
      clear h1
      go_enter Try.func23, Try.ntmps23
      go_wp2_with fail
      refine (CF.out _ (HA.out.alloc _)).mono ?_
      rintro e w1 ⟨rfl, rfl⟩
      go_wp2_with fail
      have Z0 : Hid (((w.alloc (.cells #[.int .i64 6, .int .i64 i, .int .i64 b, .int .i64 v] 26)).alloc (.cells #[.int .i64 x.a, .int .i64 x.b, .int .i64 x.c, .int .i64 x.d, .int .i64 x.e] 36)).cell? ⟨w.heap.size + 1, 0, none⟩ = some (.int .i64 x.a)) := Lib.hid (World.cell?_alloc_at _ _ _ _ (by simp))
      have Z1 : Hid (((w.alloc (.cells #[.int .i64 6, .int .i64 i, .int .i64 b, .int .i64 v] 26)).alloc (.cells #[.int .i64 x.a, .int .i64 x.b, .int .i64 x.c, .int .i64 x.d, .int .i64 x.e] 36)).cell? ⟨w.heap.size + 1, 1, none⟩ = some (.int .i64 x.b)) := Lib.hid (World.cell?_alloc_at _ _ _ _ (by simp))
      have Z2 : Hid (((w.alloc (.cells #[.int .i64 6, .int .i64 i, .int .i64 b, .int .i64 v] 26)).alloc (.cells #[.int .i64 x.a, .int .i64 x.b, .int .i64 x.c, .int .i64 x.d, .int .i64 x.e] 36)).cell? ⟨w.heap.size + 1, 2, none⟩ = some (.int .i64 x.c)) := Lib.hid (World.cell?_alloc_at _ _ _ _ (by simp))
      have BK : Hid (Below w.heap.size w ((w.alloc (.cells #[.int .i64 6, .int .i64 i, .int .i64 b, .int .i64 v] 26)).alloc (.cells #[.int .i64 x.a, .int .i64 x.b, .int .i64 x.c, .int .i64 x.d, .int .i64 x.e] 36))) := Lib.hid (box_k2 _ _ _)
      have HR := Lib.hid (((HA.out.alloc (.cells #[.int .i64 6, .int .i64 i, .int .i64 b, .int .i64 v] 26)).alloc (.cells #[.int .i64 x.a, .int .i64 x.b, .int .i64 x.c, .int .i64 x.d, .int .i64 x.e] 36)))
      have hzs : w.heap.size + 1 < ((w.alloc (.cells #[.int .i64 6, .int .i64 i, .int .i64 b, .int .i64 v] 26)).alloc (.cells #[.int .i64 x.a, .int .i64 x.b, .int .i64 x.c, .int .i64 x.d, .int .i64 x.e] 36)).heap.size := by simp
      go_region_held3 (fun w' => w'.cell? ⟨w.heap.size + 1, 0, none⟩ = some (.int .i64 x.a) ∧ w'.cell? ⟨w.heap.size + 1, 1, none⟩ = some (.int .i64 x.b) ∧ w'.cell? ⟨w.heap.size + 1, 2, none⟩ = some (.int .i64 x.c)) (first | go_keep | exact ⟨Z0.out, Z1.out, Z2.out⟩ | exact ⟨(b5.cell (p := ⟨w.heap.size + 1, 0, none⟩) hzs).trans Z0.out, (b5.cell (p := ⟨w.heap.size + 1, 1, none⟩) hzs).trans Z1.out, (b5.cell (p := ⟨w.heap.size + 1, 2, none⟩) hzs).trans Z2.out⟩) (first | (go_at_call 45; (with_reducible refine (CW.out _ (by first | exact HR.out | exact HR.out.drew)).mono ?_); rintro e w5 ⟨v5, rfl, o5, b5⟩))
      all_goals go_goals
      all_goals (
        have HB6 : Hid (Below w.heap.size w w5) := Lib.hid (by first | exact BK.out.trans (b5.mono BK.out.size) | exact BK.out.drew.trans (b5.mono BK.out.size))
        have HO6 := Lib.hid (own_mono (base' := w.heap.size) o5 BK.out.size)
        clear o5 b5
        go_wp2
        go_ret2
        exact ⟨_, _, rfl, own_len HO6.out HPL.out, by simp, HB6.out⟩)

end Go.Proofs.Ytjnbcippipookaa
