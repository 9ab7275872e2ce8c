/- The fault of a cover: the program. -/
import Derived.Test.YtobloedpmjkgpaaCvF
import Derived.Test.YtobloedpmjkgpaaCvU
import Derived.Deep.RegionHeld3
namespace Go.Proofs.Ytobloedpmjkgpaa
set_option linter.unusedVariables false
set_option linter.unusedSimpArgs false
open Go.RowKit

set_option maxHeartbeats 8000000 in
set_option maxRecDepth 20000 in
theorem faultOf_any (hrep : RepOK) (A : Option Addr) (n c : Nat) (rs : List R5) (B : Option Addr) (n2 c2 : Nat) (ms : List R4) (x : R9) (w : World) (hn : rs.length = n) (hA : Rd w A (cells5 rs)) (hn2 : ms.length = n2) (hB : Rd w B (cells4 ms)) (hr : rtL rs = true) (hg : mlL ms = true) (hx : cvB x = true) :
    Calls Try.prog 24 #[.slice A n c, .slice B n2 c2, .agg #[.int .i64 x.a, .int .i64 x.b, .int .i64 x.c, .int .i64 x.d, .int .i64 x.e, .int .i64 x.f, .int .i64 x.g, .int .i64 x.h, .int .i64 x.i]] w (Ret (.int .i64 (cvF rs ms x)) w) := by
  have hb := cvB_bd hx
  have h16 := rtL_len hr
  have h20 := mlL_len hg
  have CF := Lib.hid (fun w h => rateFor_any A n c rs x.b x.c x.d w hn h (by omega))
  have CT := Lib.hid (fun w h => earliest_any hrep B n2 c2 ms x.f x.h w hn2 h hg (by omega) (by omega) (by omega))
  have hz1 := tmI_at (tmP_len ms x.f x.h ms.length) (p := x.g) (by omega)
  rw [show tmP ms x.f x.h ms.length = tmV ms x.f x.h from rfl] at hz1
  have hke := okT_at (tmP_ok hg x.f (m := x.h) (by omega) ms.length) x.g
  rw [show tmP ms x.f x.h ms.length = tmV ms x.f x.h from rfl] at hke
  have hcb := rtFor_bd hr x.b x.c x.d
  obtain ⟨nt, hnt⟩ : ∃ nt : Nat, x.g = (nt : Int) := ⟨x.g.toNat, by omega⟩
  have hval : cvF rs ms x = fltV (rtFor rs x.b x.c x.d) (atT (tmV ms x.f x.h) x.g) x.e x.i := rfl
  obtain ⟨ce, hce⟩ : ∃ ce, ce = rtFor rs x.b x.c x.d := ⟨_, rfl⟩
  obtain ⟨tt, htt⟩ : ∃ tt, tt = atT (tmV ms x.f x.h) x.g := ⟨_, rfl⟩
  rw [← htt, ← hce] at hval
  rw [← htt] at hz1 hke
  rw [← hce] at hcb CF
  rw [hnt, Int.toNat_natCast] at hz1
  rw [hval]
  have HZ := Lib.hid hz1
  have HA := Lib.hid hA
  have HB := Lib.hid hB
  have hnt0 : (0 : Int) ≤ (nt : Int) := by omega
  have hnt1 : (nt : Int) < 10 := by omega
  have HNT := Lib.hid hnt
  obtain ⟨hc1, hc2, hc3⟩ := hcb
  have HK := Lib.hid hke
  clear hA hB hn hn2 hr hg hx hz1 hval hce htt hke hnt

  rw [hc3] at CF

  by_cases q0 : ce = 0
  · rw [show fltV ce tt x.e x.i = 1 by unfold fltV; rw [if_pos q0]]
    rw [show decide (ce ≠ 0) = false by simp [q0]] at CF
    obtain ⟨ti, hti⟩ : ∃ ti, ti = cvT tt := ⟨_, rfl⟩
    rw [← hti] at HZ
    clear hti
    have HQ0 := Lib.hid q0
    clear q0
    go_enter Try.func24, Try.ntmps24
    go_wp2_with fail
    refine (CF.out _ (HA.out.alloc _)).mono ?_
    rintro e w1 ⟨rfl, b1⟩
    have hB1 := b1.cell (p := ⟨w.heap.size, 0, none⟩) (by simp)
    have hsz : w.heap.size < w1.heap.size := by have := b1.size; simp at this; omega
    have e4 : w1.cell? ⟨w.heap.size, 4, none⟩ = some (.int .i64 x.e) := (b1.cell (p := ⟨w.heap.size, 4, none⟩) (by simp)).trans (World.cell?_alloc_at _ _ _ _ rfl)
    have e5 : w1.cell? ⟨w.heap.size, 5, none⟩ = some (.int .i64 x.f) := (b1.cell (p := ⟨w.heap.size, 5, none⟩) (by simp)).trans (World.cell?_alloc_at _ _ _ _ rfl)
    have e6 : w1.cell? ⟨w.heap.size, 6, none⟩ = some (.int .i64 (nt : Int)) := by rw [← HNT.out]; exact (b1.cell (p := ⟨w.heap.size, 6, none⟩) (by simp)).trans (World.cell?_alloc_at _ _ _ _ rfl)
    have e7 : w1.cell? ⟨w.heap.size, 7, none⟩ = some (.int .i64 x.h) := (b1.cell (p := ⟨w.heap.size, 7, none⟩) (by simp)).trans (World.cell?_alloc_at _ _ _ _ rfl)
    have e8 : w1.cell? ⟨w.heap.size, 8, none⟩ = some (.int .i64 x.i) := (b1.cell (p := ⟨w.heap.size, 8, none⟩) (by simp)).trans (World.cell?_alloc_at _ _ _ _ rfl)
    have HM1 := Lib.hid ((HB.out.alloc (.cells #[.int .i64 x.a, .int .i64 x.b, .int .i64 x.c, .int .i64 x.d, .int .i64 x.e, .int .i64 x.f, .int .i64 x.g, .int .i64 x.h, .int .i64 x.i] 42)).below b1)
    have HB1 : Hid (Below w.heap.size w w1) := Lib.hid (((Below.refl _ _).alloc (Nat.le_refl _) _).trans (b1.mono (by simp)))
    clear b1 hB1
    go_wp2_with fail
    go_region_with (first
    | (go_at_call 49; refine (CT.out _ (by first | exact HM1.out.drew | exact HM1.out)).mono ?_; rintro e w3 ⟨v3, rfl, o3, b3⟩; obtain ⟨A3, c3, rfl⟩ := own_form o3; obtain ⟨g3, p3, eA3, hg3, r3⟩ := (Rd.of_own o3).at1 HZ.out; subst eA3; have E4 := (b3.cell (p := ⟨w.heap.size, 4, none⟩) (by simp <;> omega)).trans (by first | exact e4 | simpa using e4); have E6 := (b3.cell (p := ⟨w.heap.size, 6, none⟩) (by simp <;> omega)).trans (by first | exact e6 | simpa using e6); have E8 := (b3.cell (p := ⟨w.heap.size, 8, none⟩) (by simp <;> omega)).trans (by first | exact e8 | simpa using e8)))
    all_goals go_goals
    all_goals (
      have HB3 : Hid (Below w.heap.size w w3) := Lib.hid (HB1.out.trans ((show Below w1.heap.size w1 w3 from by first | exact b3 | exact (Below.refl _ _).drew.trans b3 | simpa using b3).mono HB1.out.size))
      clear o3 b3 e4 e5 e6 e7 e8
      go_wp2
      go_ret
      exact ⟨rfl, HB3.out⟩)
  · by_cases q1 : x.e < ce
    · rw [show fltV ce tt x.e x.i = 2 by unfold fltV; rw [if_neg q0, if_pos q1]]
      rw [show decide (ce ≠ 0) = true by simp [q0]] at CF
      have d1 : decide (x.e < ce) = true := by simp; omega
      obtain ⟨ti, hti⟩ : ∃ ti, ti = cvT tt := ⟨_, rfl⟩
      rw [← hti] at HZ
      clear hti
      go_enter Try.func24, Try.ntmps24
      go_wp2_with fail
      refine (CF.out _ (HA.out.alloc _)).mono ?_
      rintro e w1 ⟨rfl, b1⟩
      have hB1 := b1.cell (p := ⟨w.heap.size, 0, none⟩) (by simp)
      have hsz : w.heap.size < w1.heap.size := by have := b1.size; simp at this; omega
      have e4 : w1.cell? ⟨w.heap.size, 4, none⟩ = some (.int .i64 x.e) := (b1.cell (p := ⟨w.heap.size, 4, none⟩) (by simp)).trans (World.cell?_alloc_at _ _ _ _ rfl)
      have e5 : w1.cell? ⟨w.heap.size, 5, none⟩ = some (.int .i64 x.f) := (b1.cell (p := ⟨w.heap.size, 5, none⟩) (by simp)).trans (World.cell?_alloc_at _ _ _ _ rfl)
      have e6 : w1.cell? ⟨w.heap.size, 6, none⟩ = some (.int .i64 (nt : Int)) := by rw [← HNT.out]; exact (b1.cell (p := ⟨w.heap.size, 6, none⟩) (by simp)).trans (World.cell?_alloc_at _ _ _ _ rfl)
      have e7 : w1.cell? ⟨w.heap.size, 7, none⟩ = some (.int .i64 x.h) := (b1.cell (p := ⟨w.heap.size, 7, none⟩) (by simp)).trans (World.cell?_alloc_at _ _ _ _ rfl)
      have e8 : w1.cell? ⟨w.heap.size, 8, none⟩ = some (.int .i64 x.i) := (b1.cell (p := ⟨w.heap.size, 8, none⟩) (by simp)).trans (World.cell?_alloc_at _ _ _ _ rfl)
      have HM1 := Lib.hid ((HB.out.alloc (.cells #[.int .i64 x.a, .int .i64 x.b, .int .i64 x.c, .int .i64 x.d, .int .i64 x.e, .int .i64 x.f, .int .i64 x.g, .int .i64 x.h, .int .i64 x.i] 42)).below b1)
      have HB1 : Hid (Below w.heap.size w w1) := Lib.hid (((Below.refl _ _).alloc (Nat.le_refl _) _).trans (b1.mono (by simp)))
      clear b1 hB1
      go_wp2_with fail
      go_region_with (first
      | (go_at_call 49; refine (CT.out _ (by first | exact HM1.out.drew | exact HM1.out)).mono ?_; rintro e w3 ⟨v3, rfl, o3, b3⟩; obtain ⟨A3, c3, rfl⟩ := own_form o3; obtain ⟨g3, p3, eA3, hg3, r3⟩ := (Rd.of_own o3).at1 HZ.out; subst eA3; have E4 := (b3.cell (p := ⟨w.heap.size, 4, none⟩) (by simp <;> omega)).trans (by first | exact e4 | simpa using e4); have E6 := (b3.cell (p := ⟨w.heap.size, 6, none⟩) (by simp <;> omega)).trans (by first | exact e6 | simpa using e6); have E8 := (b3.cell (p := ⟨w.heap.size, 8, none⟩) (by simp <;> omega)).trans (by first | exact e8 | simpa using e8)))
      all_goals go_goals
      all_goals (
        have HB3 : Hid (Below w.heap.size w w3) := Lib.hid (HB1.out.trans ((show Below w1.heap.size w1 w3 from by first | exact b3 | exact (Below.refl _ _).drew.trans b3 | simpa using b3).mono HB1.out.size))
        clear o3 b3 e4 e5 e6 e7 e8
        go_wp2
        go_ret
        exact ⟨rfl, HB3.out⟩)
    · by_cases q2 : 2 * ce < x.e
      · rw [show fltV ce tt x.e x.i = 3 by unfold fltV; rw [if_neg q0, if_neg q1, if_pos q2]]
        rw [show decide (ce ≠ 0) = true by simp [q0]] at CF
        have d1 : decide (x.e < ce) = false := by simp; omega
        have d2 : decide (2 * ce < x.e) = true := by simp; omega
        obtain ⟨ti, hti⟩ : ∃ ti, ti = cvT tt := ⟨_, rfl⟩
        rw [← hti] at HZ
        clear hti
        go_enter Try.func24, Try.ntmps24
        go_wp2_with fail
        refine (CF.out _ (HA.out.alloc _)).mono ?_
        rintro e w1 ⟨rfl, b1⟩
        have hB1 := b1.cell (p := ⟨w.heap.size, 0, none⟩) (by simp)
        have hsz : w.heap.size < w1.heap.size := by have := b1.size; simp at this; omega
        have e4 : w1.cell? ⟨w.heap.size, 4, none⟩ = some (.int .i64 x.e) := (b1.cell (p := ⟨w.heap.size, 4, none⟩) (by simp)).trans (World.cell?_alloc_at _ _ _ _ rfl)
        have e5 : w1.cell? ⟨w.heap.size, 5, none⟩ = some (.int .i64 x.f) := (b1.cell (p := ⟨w.heap.size, 5, none⟩) (by simp)).trans (World.cell?_alloc_at _ _ _ _ rfl)
        have e6 : w1.cell? ⟨w.heap.size, 6, none⟩ = some (.int .i64 (nt : Int)) := by rw [← HNT.out]; exact (b1.cell (p := ⟨w.heap.size, 6, none⟩) (by simp)).trans (World.cell?_alloc_at _ _ _ _ rfl)
        have e7 : w1.cell? ⟨w.heap.size, 7, none⟩ = some (.int .i64 x.h) := (b1.cell (p := ⟨w.heap.size, 7, none⟩) (by simp)).trans (World.cell?_alloc_at _ _ _ _ rfl)
        have e8 : w1.cell? ⟨w.heap.size, 8, none⟩ = some (.int .i64 x.i) := (b1.cell (p := ⟨w.heap.size, 8, none⟩) (by simp)).trans (World.cell?_alloc_at _ _ _ _ rfl)
        have HM1 := Lib.hid ((HB.out.alloc (.cells #[.int .i64 x.a, .int .i64 x.b, .int .i64 x.c, .int .i64 x.d, .int .i64 x.e, .int .i64 x.f, .int .i64 x.g, .int .i64 x.h, .int .i64 x.i] 42)).below b1)
        have HB1 : Hid (Below w.heap.size w w1) := Lib.hid (((Below.refl _ _).alloc (Nat.le_refl _) _).trans (b1.mono (by simp)))
        clear b1 hB1
        go_wp2_with fail
        go_region_with (first
        | (go_at_call 49; refine (CT.out _ (by first | exact HM1.out.drew | exact HM1.out)).mono ?_; rintro e w3 ⟨v3, rfl, o3, b3⟩; obtain ⟨A3, c3, rfl⟩ := own_form o3; obtain ⟨g3, p3, eA3, hg3, r3⟩ := (Rd.of_own o3).at1 HZ.out; subst eA3; have E4 := (b3.cell (p := ⟨w.heap.size, 4, none⟩) (by simp <;> omega)).trans (by first | exact e4 | simpa using e4); have E6 := (b3.cell (p := ⟨w.heap.size, 6, none⟩) (by simp <;> omega)).trans (by first | exact e6 | simpa using e6); have E8 := (b3.cell (p := ⟨w.heap.size, 8, none⟩) (by simp <;> omega)).trans (by first | exact e8 | simpa using e8)))
        all_goals go_goals
        all_goals (
          have HB3 : Hid (Below w.heap.size w w3) := Lib.hid (HB1.out.trans ((show Below w1.heap.size w1 w3 from by first | exact b3 | exact (Below.refl _ _).drew.trans b3 | simpa using b3).mono HB1.out.size))
          clear o3 b3 e4 e5 e6 e7 e8
          go_wp2
          go_ret
          exact ⟨rfl, HB3.out⟩)
      · by_cases q3 : tt = 10000
        · rw [show fltV ce tt x.e x.i = 4 by unfold fltV; rw [if_neg q0, if_neg q1, if_neg q2, if_pos q3]]
          rw [show decide (ce ≠ 0) = true by simp [q0]] at CF
          have d1 : decide (x.e < ce) = false := by simp; omega
          have d2 : decide (2 * ce < x.e) = false := by simp; omega
          obtain ⟨ti, hti⟩ : ∃ ti, ti = cvT tt := ⟨_, rfl⟩
          rw [← hti] at HZ
          have hi : ti = -1 := by rw [hti, cvT, if_pos q3]
          have d3 : ti < 0 := by omega
          clear hi
          clear hti
          have HQ3 := Lib.hid q3
          clear q3
          go_enter Try.func24, Try.ntmps24
          go_wp2_with fail
          refine (CF.out _ (HA.out.alloc _)).mono ?_
          rintro e w1 ⟨rfl, b1⟩
          have hB1 := b1.cell (p := ⟨w.heap.size, 0, none⟩) (by simp)
          have hsz : w.heap.size < w1.heap.size := by have := b1.size; simp at this; omega
          have e4 : w1.cell? ⟨w.heap.size, 4, none⟩ = some (.int .i64 x.e) := (b1.cell (p := ⟨w.heap.size, 4, none⟩) (by simp)).trans (World.cell?_alloc_at _ _ _ _ rfl)
          have e5 : w1.cell? ⟨w.heap.size, 5, none⟩ = some (.int .i64 x.f) := (b1.cell (p := ⟨w.heap.size, 5, none⟩) (by simp)).trans (World.cell?_alloc_at _ _ _ _ rfl)
          have e6 : w1.cell? ⟨w.heap.size, 6, none⟩ = some (.int .i64 (nt : Int)) := by rw [← HNT.out]; exact (b1.cell (p := ⟨w.heap.size, 6, none⟩) (by simp)).trans (World.cell?_alloc_at _ _ _ _ rfl)
          have e7 : w1.cell? ⟨w.heap.size, 7, none⟩ = some (.int .i64 x.h) := (b1.cell (p := ⟨w.heap.size, 7, none⟩) (by simp)).trans (World.cell?_alloc_at _ _ _ _ rfl)
          have e8 : w1.cell? ⟨w.heap.size, 8, none⟩ = some (.int .i64 x.i) := (b1.cell (p := ⟨w.heap.size, 8, none⟩) (by simp)).trans (World.cell?_alloc_at _ _ _ _ rfl)
          have HM1 := Lib.hid ((HB.out.alloc (.cells #[.int .i64 x.a, .int .i64 x.b, .int .i64 x.c, .int .i64 x.d, .int .i64 x.e, .int .i64 x.f, .int .i64 x.g, .int .i64 x.h, .int .i64 x.i] 42)).below b1)
          have HB1 : Hid (Below w.heap.size w w1) := Lib.hid (((Below.refl _ _).alloc (Nat.le_refl _) _).trans (b1.mono (by simp)))
          clear b1 hB1
          go_wp2_with fail
          go_region_with (first
          | (go_at_call 49; refine (CT.out _ (by first | exact HM1.out.drew | exact HM1.out)).mono ?_; rintro e w3 ⟨v3, rfl, o3, b3⟩; obtain ⟨A3, c3, rfl⟩ := own_form o3; obtain ⟨g3, p3, eA3, hg3, r3⟩ := (Rd.of_own o3).at1 HZ.out; subst eA3; have E4 := (b3.cell (p := ⟨w.heap.size, 4, none⟩) (by simp <;> omega)).trans (by first | exact e4 | simpa using e4); have E6 := (b3.cell (p := ⟨w.heap.size, 6, none⟩) (by simp <;> omega)).trans (by first | exact e6 | simpa using e6); have E8 := (b3.cell (p := ⟨w.heap.size, 8, none⟩) (by simp <;> omega)).trans (by first | exact e8 | simpa using e8)))
          all_goals go_goals
          all_goals (
            have HB3 : Hid (Below w.heap.size w w3) := Lib.hid (HB1.out.trans ((show Below w1.heap.size w1 w3 from by first | exact b3 | exact (Below.refl _ _).drew.trans b3 | simpa using b3).mono HB1.out.size))
            clear o3 b3 e4 e5 e6 e7 e8
            go_wp2
            go_ret
            exact ⟨rfl, HB3.out⟩)
        · by_cases q4 : x.i < tt
          · rw [show fltV ce tt x.e x.i = 5 by unfold fltV; rw [if_neg q0, if_neg q1, if_neg q2, if_neg q3, if_pos q4]]
            rw [show decide (ce ≠ 0) = true by simp [q0]] at CF
            have d1 : decide (x.e < ce) = false := by simp; omega
            have d2 : decide (2 * ce < x.e) = false := by simp; omega
            obtain ⟨ti, hti⟩ : ∃ ti, ti = cvT tt := ⟨_, rfl⟩
            rw [← hti] at HZ
            have hi : ti = tt := by rw [hti, cvT, if_neg q3]
            have hk3 := HK.out
            have d3 : ¬ ti < 0 := by omega
            have d4 : decide (x.i < ti) = true := by simp; omega
            clear hi hk3
            clear hti
            go_enter Try.func24, Try.ntmps24
            go_wp2_with fail
            refine (CF.out _ (HA.out.alloc _)).mono ?_
            rintro e w1 ⟨rfl, b1⟩
            have hB1 := b1.cell (p := ⟨w.heap.size, 0, none⟩) (by simp)
            have hsz : w.heap.size < w1.heap.size := by have := b1.size; simp at this; omega
            have e4 : w1.cell? ⟨w.heap.size, 4, none⟩ = some (.int .i64 x.e) := (b1.cell (p := ⟨w.heap.size, 4, none⟩) (by simp)).trans (World.cell?_alloc_at _ _ _ _ rfl)
            have e5 : w1.cell? ⟨w.heap.size, 5, none⟩ = some (.int .i64 x.f) := (b1.cell (p := ⟨w.heap.size, 5, none⟩) (by simp)).trans (World.cell?_alloc_at _ _ _ _ rfl)
            have e6 : w1.cell? ⟨w.heap.size, 6, none⟩ = some (.int .i64 (nt : Int)) := by rw [← HNT.out]; exact (b1.cell (p := ⟨w.heap.size, 6, none⟩) (by simp)).trans (World.cell?_alloc_at _ _ _ _ rfl)
            have e7 : w1.cell? ⟨w.heap.size, 7, none⟩ = some (.int .i64 x.h) := (b1.cell (p := ⟨w.heap.size, 7, none⟩) (by simp)).trans (World.cell?_alloc_at _ _ _ _ rfl)
            have e8 : w1.cell? ⟨w.heap.size, 8, none⟩ = some (.int .i64 x.i) := (b1.cell (p := ⟨w.heap.size, 8, none⟩) (by simp)).trans (World.cell?_alloc_at _ _ _ _ rfl)
            have HM1 := Lib.hid ((HB.out.alloc (.cells #[.int .i64 x.a, .int .i64 x.b, .int .i64 x.c, .int .i64 x.d, .int .i64 x.e, .int .i64 x.f, .int .i64 x.g, .int .i64 x.h, .int .i64 x.i] 42)).below b1)
            have HB1 : Hid (Below w.heap.size w w1) := Lib.hid (((Below.refl _ _).alloc (Nat.le_refl _) _).trans (b1.mono (by simp)))
            clear b1 hB1
            go_wp2_with fail
            go_region_with (first
            | (go_at_call 49; refine (CT.out _ (by first | exact HM1.out.drew | exact HM1.out)).mono ?_; rintro e w3 ⟨v3, rfl, o3, b3⟩; obtain ⟨A3, c3, rfl⟩ := own_form o3; obtain ⟨g3, p3, eA3, hg3, r3⟩ := (Rd.of_own o3).at1 HZ.out; subst eA3; have E4 := (b3.cell (p := ⟨w.heap.size, 4, none⟩) (by simp <;> omega)).trans (by first | exact e4 | simpa using e4); have E6 := (b3.cell (p := ⟨w.heap.size, 6, none⟩) (by simp <;> omega)).trans (by first | exact e6 | simpa using e6); have E8 := (b3.cell (p := ⟨w.heap.size, 8, none⟩) (by simp <;> omega)).trans (by first | exact e8 | simpa using e8)))
            all_goals go_goals
            all_goals (
              have HB3 : Hid (Below w.heap.size w w3) := Lib.hid (HB1.out.trans ((show Below w1.heap.size w1 w3 from by first | exact b3 | exact (Below.refl _ _).drew.trans b3 | simpa using b3).mono HB1.out.size))
              clear o3 b3 e4 e5 e6 e7 e8
              go_wp2
              go_ret
              exact ⟨rfl, HB3.out⟩)
          · rw [show fltV ce tt x.e x.i = 0 by unfold fltV; rw [if_neg q0, if_neg q1, if_neg q2, if_neg q3, if_neg q4]]
            rw [show decide (ce ≠ 0) = true by simp [q0]] at CF
            have d1 : decide (x.e < ce) = false := by simp; omega
            have d2 : decide (2 * ce < x.e) = false := by simp; omega
            obtain ⟨ti, hti⟩ : ∃ ti, ti = cvT tt := ⟨_, rfl⟩
            rw [← hti] at HZ
            have hi : ti = tt := by rw [hti, cvT, if_neg q3]
            have hk3 := HK.out
            have d3 : ¬ ti < 0 := by omega
            have d4 : decide (x.i < ti) = false := by simp; omega
            clear hi hk3
            clear hti
            go_enter Try.func24, Try.ntmps24
            go_wp2_with fail
            refine (CF.out _ (HA.out.alloc _)).mono ?_
            rintro e w1 ⟨rfl, b1⟩
            have hB1 := b1.cell (p := ⟨w.heap.size, 0, none⟩) (by simp)
            have hsz : w.heap.size < w1.heap.size := by have := b1.size; simp at this; omega
            have e4 : w1.cell? ⟨w.heap.size, 4, none⟩ = some (.int .i64 x.e) := (b1.cell (p := ⟨w.heap.size, 4, none⟩) (by simp)).trans (World.cell?_alloc_at _ _ _ _ rfl)
            have e5 : w1.cell? ⟨w.heap.size, 5, none⟩ = some (.int .i64 x.f) := (b1.cell (p := ⟨w.heap.size, 5, none⟩) (by simp)).trans (World.cell?_alloc_at _ _ _ _ rfl)
            have e6 : w1.cell? ⟨w.heap.size, 6, none⟩ = some (.int .i64 (nt : Int)) := by rw [← HNT.out]; exact (b1.cell (p := ⟨w.heap.size, 6, none⟩) (by simp)).trans (World.cell?_alloc_at _ _ _ _ rfl)
            have e7 : w1.cell? ⟨w.heap.size, 7, none⟩ = some (.int .i64 x.h) := (b1.cell (p := ⟨w.heap.size, 7, none⟩) (by simp)).trans (World.cell?_alloc_at _ _ _ _ rfl)
            have e8 : w1.cell? ⟨w.heap.size, 8, none⟩ = some (.int .i64 x.i) := (b1.cell (p := ⟨w.heap.size, 8, none⟩) (by simp)).trans (World.cell?_alloc_at _ _ _ _ rfl)
            have HM1 := Lib.hid ((HB.out.alloc (.cells #[.int .i64 x.a, .int .i64 x.b, .int .i64 x.c, .int .i64 x.d, .int .i64 x.e, .int .i64 x.f, .int .i64 x.g, .int .i64 x.h, .int .i64 x.i] 42)).below b1)
            have HB1 : Hid (Below w.heap.size w w1) := Lib.hid (((Below.refl _ _).alloc (Nat.le_refl _) _).trans (b1.mono (by simp)))
            clear b1 hB1
            go_wp2_with fail
            go_region_with (first
            | (go_at_call 49; refine (CT.out _ (by first | exact HM1.out.drew | exact HM1.out)).mono ?_; rintro e w3 ⟨v3, rfl, o3, b3⟩; obtain ⟨A3, c3, rfl⟩ := own_form o3; obtain ⟨g3, p3, eA3, hg3, r3⟩ := (Rd.of_own o3).at1 HZ.out; subst eA3; have E4 := (b3.cell (p := ⟨w.heap.size, 4, none⟩) (by simp <;> omega)).trans (by first | exact e4 | simpa using e4); have E6 := (b3.cell (p := ⟨w.heap.size, 6, none⟩) (by simp <;> omega)).trans (by first | exact e6 | simpa using e6); have E8 := (b3.cell (p := ⟨w.heap.size, 8, none⟩) (by simp <;> omega)).trans (by first | exact e8 | simpa using e8)))
            all_goals go_goals
            all_goals (
              have HB3 : Hid (Below w.heap.size w w3) := Lib.hid (HB1.out.trans ((show Below w1.heap.size w1 w3 from by first | exact b3 | exact (Below.refl _ _).drew.trans b3 | simpa using b3).mono HB1.out.size))
              clear o3 b3 e4 e5 e6 e7 e8
              go_wp2
              go_ret
              exact ⟨rfl, HB3.out⟩)

end Go.Proofs.Ytobloedpmjkgpaa
