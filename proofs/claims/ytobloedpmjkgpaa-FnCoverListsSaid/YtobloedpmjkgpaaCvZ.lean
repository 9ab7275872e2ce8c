/- The route of a cover: the reference. -/
import Derived.Test.YtobloedpmjkgpaaCvW
namespace Go.Proofs.Ytobloedpmjkgpaa
set_option linter.unusedVariables false
set_option linter.unusedSimpArgs false
open Go.RowKit

set_option maxHeartbeats 16000000 in
set_option maxRecDepth 20000 in
theorem l10Route_any (B : Option Addr) (n2 c2 : Nat) (ms : List R4) (x : R9) (w : World) (hn2 : ms.length = n2) (hB : Rd w B (cells4 ms)) (hg : mlL ms = true) (hx : cvB x = true) :
    Calls Try.prog 35 #[.slice B n2 c2, .agg #[.int .i64 x.a, .int .i64 x.b, .int .i64 x.c, .int .i64 x.d, .int .i64 x.e, .int .i64 x.f, .int .i64 x.g, .int .i64 x.h, .int .i64 x.i]] w (RetOwnB 3 1 (roV ms x).length (cells1 (roV ms x)) (roB ms x) w) := by
  have hb := cvB_bd hx
  have h20 := mlL_len hg
  have CE := Lib.hid (fun w h => EarliestAt_any B n2 c2 ms x.f x.h x.g w hn2 h hg (by omega) (by omega) (by omega) (by omega))
  have CB := Lib.hid (fun w h hne => BestRoute_any B n2 c2 ms x.f x.h x.g (roV ms x) w hn2 h hg (by omega) (by omega) (by omega) (by omega) hne)
  have HRO := Lib.hid (ro_br hg hx)
  have hrv : roB ms x = decide (atT (tmV ms x.f x.h) x.g ≤ x.i) := rfl
  have hrn : roB ms x = false → roV ms x = [] := fun h => by rw [roV, if_neg (by rw [h]; simp)]
  obtain ⟨R, hR⟩ : ∃ R, R = roV ms x := ⟨_, rfl⟩
  obtain ⟨rb, hrb⟩ : ∃ rb, rb = roB ms x := ⟨_, rfl⟩
  rw [← hR, ← hrb] at HRO
  rw [← hR] at CB hrn
  rw [← hrb] at hrv hrn
  rw [← hR, ← hrb]
  obtain ⟨tt, htt⟩ : ∃ tt, tt = atT (tmV ms x.f x.h) x.g := ⟨_, rfl⟩
  rw [← htt] at CE CB HRO hrv
  have HM := Lib.hid hB
  clear hB hg hx hn2 hR hrb htt
  by_cases h1 : tt = 10000
  · have e1 : rb = false := by rw [hrv]; simp; omega
    have e2 := hrn e1
    subst e1; subst e2
    rw [if_pos h1, show decide (tt ≠ 10000) = false by simp [h1]] at CE
    clear hrv hrn h1 CB HRO
    go_enter Try.func35, Try.ntmps35
    go_wp2_with fail
    refine (CE.out _ (HM.out.alloc _)).mono ?_
    rintro e w1 ⟨rfl, b1⟩
    have hsz : w.heap.size < w1.heap.size := by have := b1.size; simp at this; omega
    have e5 : w1.cell? ⟨w.heap.size, 5, none⟩ = some (.int .i64 x.f) := (b1.cell (p := ⟨w.heap.size, 5, none⟩) (by simp)).trans (World.cell?_alloc_at _ _ _ _ rfl)
    have e6 : w1.cell? ⟨w.heap.size, 6, none⟩ = some (.int .i64 x.g) := (b1.cell (p := ⟨w.heap.size, 6, none⟩) (by simp)).trans (World.cell?_alloc_at _ _ _ _ rfl)
    have e7 : w1.cell? ⟨w.heap.size, 7, none⟩ = some (.int .i64 x.h) := (b1.cell (p := ⟨w.heap.size, 7, none⟩) (by simp)).trans (World.cell?_alloc_at _ _ _ _ rfl)
    have e8 : w1.cell? ⟨w.heap.size, 8, none⟩ = some (.int .i64 x.i) := (b1.cell (p := ⟨w.heap.size, 8, none⟩) (by simp)).trans (World.cell?_alloc_at _ _ _ _ rfl)
    have HM1 := Lib.hid ((HM.out.alloc (.cells #[.int .i64 x.a, .int .i64 x.b, .int .i64 x.c, .int .i64 x.d, .int .i64 x.e, .int .i64 x.f, .int .i64 x.g, .int .i64 x.h, .int .i64 x.i] 42)).below b1)
    have HB1 : Hid (Below w.heap.size w w1) := Lib.hid (((Below.refl _ _).alloc (Nat.le_refl _) _).trans (b1.mono (by simp)))
    clear b1
    go_wp2
    go_ret2
    exact ⟨_, rfl, own_mono (own_empty w1 w1.heap.size 3 1 (Nat.le_refl _)) HB1.out.size, HB1.out.alloc HB1.out.size _⟩
  · rw [if_neg h1, show decide (tt ≠ 10000) = true by simp [h1]] at CE
    by_cases h2 : x.i < tt
    · have e1 : rb = false := by rw [hrv]; simp; omega
      have e2 := hrn e1
      subst e1; subst e2
      have d2 : decide (x.i < tt) = true := by simp [h2]
      clear hrv hrn h1 CB HRO
      go_enter Try.func35, Try.ntmps35
      go_wp2_with fail
      refine (CE.out _ (HM.out.alloc _)).mono ?_
      rintro e w1 ⟨rfl, b1⟩
      have hsz : w.heap.size < w1.heap.size := by have := b1.size; simp at this; omega
      have e5 : w1.cell? ⟨w.heap.size, 5, none⟩ = some (.int .i64 x.f) := (b1.cell (p := ⟨w.heap.size, 5, none⟩) (by simp)).trans (World.cell?_alloc_at _ _ _ _ rfl)
      have e6 : w1.cell? ⟨w.heap.size, 6, none⟩ = some (.int .i64 x.g) := (b1.cell (p := ⟨w.heap.size, 6, none⟩) (by simp)).trans (World.cell?_alloc_at _ _ _ _ rfl)
      have e7 : w1.cell? ⟨w.heap.size, 7, none⟩ = some (.int .i64 x.h) := (b1.cell (p := ⟨w.heap.size, 7, none⟩) (by simp)).trans (World.cell?_alloc_at _ _ _ _ rfl)
      have e8 : w1.cell? ⟨w.heap.size, 8, none⟩ = some (.int .i64 x.i) := (b1.cell (p := ⟨w.heap.size, 8, none⟩) (by simp)).trans (World.cell?_alloc_at _ _ _ _ rfl)
      have HM1 := Lib.hid ((HM.out.alloc (.cells #[.int .i64 x.a, .int .i64 x.b, .int .i64 x.c, .int .i64 x.d, .int .i64 x.e, .int .i64 x.f, .int .i64 x.g, .int .i64 x.h, .int .i64 x.i] 42)).below b1)
      have HB1 : Hid (Below w.heap.size w w1) := Lib.hid (((Below.refl _ _).alloc (Nat.le_refl _) _).trans (b1.mono (by simp)))
      clear b1
      go_wp2
      go_ret2
      exact ⟨_, rfl, own_mono (own_empty w1 w1.heap.size 3 1 (Nat.le_refl _)) HB1.out.size, HB1.out.alloc HB1.out.size _⟩
    · have e1 : rb = true := by rw [hrv]; simp; omega
      subst e1
      have d2 : decide (x.i < tt) = false := by simp; omega
      have HBR := Lib.hid (HRO.out rfl)
      have HNE := Lib.hid h1
      clear hrv hrn h1 HRO
      go_enter Try.func35, Try.ntmps35
      go_wp2_with fail
      refine (CE.out _ (HM.out.alloc _)).mono ?_
      rintro e w1 ⟨rfl, b1⟩
      have hsz : w.heap.size < w1.heap.size := by have := b1.size; simp at this; omega
      have e5 : w1.cell? ⟨w.heap.size, 5, none⟩ = some (.int .i64 x.f) := (b1.cell (p := ⟨w.heap.size, 5, none⟩) (by simp)).trans (World.cell?_alloc_at _ _ _ _ rfl)
      have e6 : w1.cell? ⟨w.heap.size, 6, none⟩ = some (.int .i64 x.g) := (b1.cell (p := ⟨w.heap.size, 6, none⟩) (by simp)).trans (World.cell?_alloc_at _ _ _ _ rfl)
      have e7 : w1.cell? ⟨w.heap.size, 7, none⟩ = some (.int .i64 x.h) := (b1.cell (p := ⟨w.heap.size, 7, none⟩) (by simp)).trans (World.cell?_alloc_at _ _ _ _ rfl)
      have e8 : w1.cell? ⟨w.heap.size, 8, none⟩ = some (.int .i64 x.i) := (b1.cell (p := ⟨w.heap.size, 8, none⟩) (by simp)).trans (World.cell?_alloc_at _ _ _ _ rfl)
      have HM1 := Lib.hid ((HM.out.alloc (.cells #[.int .i64 x.a, .int .i64 x.b, .int .i64 x.c, .int .i64 x.d, .int .i64 x.e, .int .i64 x.f, .int .i64 x.g, .int .i64 x.h, .int .i64 x.i] 42)).below b1)
      have HB1 : Hid (Below w.heap.size w w1) := Lib.hid (((Below.refl _ _).alloc (Nat.le_refl _) _).trans (b1.mono (by simp)))
      clear b1
      go_wp2_with fail
      refine (CB.out _ HM1.out HNE.out HBR.out).mono ?_
      rintro e w2 ⟨v2, rfl, o2, b2⟩
      have HO2 := Lib.hid (own_mono o2 HB1.out.size)
      have HB2 := Lib.hid (HB1.out.trans (b2.mono HB1.out.size))
      clear o2 b2
      go_wp2
      go_ret2
      exact ⟨_, rfl, HO2.out, HB2.out⟩
end Go.Proofs.Ytobloedpmjkgpaa
