/- The route of a cover: the program. -/
import Derived.Test.YtobloedpmjkgpaaCvX
import Derived.Deep.RegionHeld3
import Derived.Deep.DeepCutAuto
import Derived.Deep.CutRange
namespace Go.Proofs.Ytobloedpmjkgpaa
set_option linter.unusedVariables false
set_option linter.unusedSimpArgs false
open Go.RowKit

theorem below_drew {w w' : World} {n : Nat} (hn : w.heap.size = n) (b : Below w.drew.heap.size w.drew w') : Below n w w' := by
  subst hn
  exact (Below.refl _ _).drew.trans b
set_option maxHeartbeats 16000000 in
set_option maxRecDepth 20000 in
theorem routeOn_any (hrep : RepOK) (B : Option Addr) (n2 c2 : Nat) (ms : List R4) (x : R9) (w : World) (hn2 : ms.length = n2) (hB : Rd w B (cells4 ms)) (hg : mlL ms = true) (hx : cvB x = true) :
    Calls Try.prog 31 #[.slice B n2 c2, .agg #[.int .i64 x.a, .int .i64 x.b, .int .i64 x.c, .int .i64 x.d, .int .i64 x.e, .int .i64 x.f, .int .i64 x.g, .int .i64 x.h, .int .i64 x.i]] w (RetOwnB 3 1 (roV ms x).length (cells1 (roV ms x)) (roB ms x) w) := by
  have hb := cvB_bd hx
  have h20 := mlL_len hg
  have CT := Lib.hid (fun w h => earliest_any hrep B n2 c2 ms x.f x.h w hn2 h hg (by omega) (by omega) (by omega))
  have CB := Lib.hid (fun w h hne => bestRoute_any hrep B n2 c2 ms x.f x.h x.g (roV ms x) w hn2 h hg (by omega) (by omega) (by omega) (by omega) hne)
  have HRO := Lib.hid (ro_br hg hx)
  have hrv : roB ms x = decide (atT (tmV ms x.f x.h) x.g ≤ x.i) := rfl
  have hrn : roB ms x = false → roV ms x = [] := fun h => by rw [roV, if_neg (by rw [h]; simp)]
  have hz1 := tmI_at (tmP_len ms x.f x.h ms.length) (p := x.g) (by omega)
  rw [show tmP ms x.f x.h ms.length = tmV ms x.f x.h from rfl] at hz1
  have hke := okT_at (tmP_ok hg x.f (m := x.h) (by omega) ms.length) x.g
  rw [show tmP ms x.f x.h ms.length = tmV ms x.f x.h from rfl] at hke
  obtain ⟨nt, hnt⟩ : ∃ nt : Nat, x.g = (nt : Int) := ⟨x.g.toNat, by omega⟩
  obtain ⟨R, hR⟩ : ∃ R, R = roV ms x := ⟨_, rfl⟩
  obtain ⟨rb, hrb⟩ : ∃ rb, rb = roB ms x := ⟨_, rfl⟩
  rw [← hR, ← hrb] at HRO
  rw [← hR] at CB hrn
  rw [← hrb] at hrv hrn
  rw [← hR, ← hrb]
  obtain ⟨tt, htt⟩ : ∃ tt, tt = atT (tmV ms x.f x.h) x.g := ⟨_, rfl⟩
  rw [← htt] at CB HRO hrv hz1 hke
  rw [hnt, Int.toNat_natCast] at hz1
  obtain ⟨ti, hti⟩ : ∃ ti, ti = cvT tt := ⟨_, rfl⟩
  rw [← hti] at hz1
  have CR := Lib.hid (fun w => inRange_any ti 0 x.i w)
  have hir : inR ti 0 x.i = rb := by rw [hti, hrv]; unfold inR cvT; exact decide_eq_decide.2 (by split <;> omega)
  rw [hir] at CR
  have hne : rb = true → tt ≠ 10000 := fun h => by rw [hrv] at h; simp at h; omega
  have HZ := Lib.hid hz1
  have HM := Lib.hid hB
  have hnt0 : (0 : Int) ≤ (nt : Int) := by omega
  have hnt1 : (nt : Int) < 10 := by omega
  have HNT := Lib.hid hnt
  have HNE := Lib.hid hne
  have HRN := Lib.hid hrn
  rw [hnt]
  rw [hnt] at CB HRO
  clear hB hg hx hn2 hR hrb htt hti hir hne hrn hrv hke hz1 hnt hrep
  have hgB : ∀ (g o : Nat), B = some ⟨g, o, none⟩ → True := fun _ _ _ => trivial
  clear hgB
  go_enter Try.func31, Try.ntmps31
  go_upto_region 1 with fail
  go_cut [19] (fun v wx => v = .bool (!rb) ∧ Below w.heap.size w wx ∧ Below (w.heap.size + 1) (w.alloc (.cells #[.int .i64 x.a, .int .i64 x.b, .int .i64 x.c, .int .i64 x.d, .int .i64 x.e, .int .i64 x.f, .int .i64 (nt : Int), .int .i64 x.h, .int .i64 x.i] 42)) wx)
  case first =>
    go_region_with (first | (go_at_call 49; refine (CT.out _ (by first | exact (HM.out.alloc _).drew | exact HM.out.alloc _)).mono ?_; rintro e w3 ⟨v3, rfl, o3, b3⟩; obtain ⟨A3, c3, rfl⟩ := own_form o3; obtain ⟨g3, p3, eA3, hg3, r3⟩ := (Rd.of_own o3).at1 HZ.out; subst eA3; have E6 : w3.cell? ⟨w.heap.size, 6, none⟩ = some (.int .i64 (nt : Int)) := (b3.cell (p := ⟨w.heap.size, 6, none⟩) (by simp <;> omega)).trans (by simp [World.cell?_alloc_at]); have E8 : w3.cell? ⟨w.heap.size, 8, none⟩ = some (.int .i64 x.i) := (b3.cell (p := ⟨w.heap.size, 8, none⟩) (by simp <;> omega)).trans (by simp [World.cell?_alloc_at])) | (go_at_call 55; refine (CR.out _).mono ?_; rintro e w' ⟨rfl, rfl⟩))
    all_goals go_goals
    all_goals (
      go_wp2_with fail
      go_meet
      case rel => exact ⟨rfl, ((Below.refl _ _).alloc (Nat.le_refl _) _).trans ((below_drew (n := w.heap.size + 1) (by simp) b3).mono (by omega)), below_drew (by simp) b3⟩)
  case rest =>
    obtain ⟨rfl, hb1, hb2⟩ := hcut
    have HB1 := Lib.hid hb1
    have hsz : w.heap.size < wc.heap.size := by have := hb2.size; simp at this; omega
    have e5 : wc.cell? ⟨w.heap.size, 5, none⟩ = some (.int .i64 x.f) := (hb2.cell (p := ⟨w.heap.size, 5, none⟩) (by simp)).trans (World.cell?_alloc_at _ _ _ _ rfl)
    have e6 : wc.cell? ⟨w.heap.size, 6, none⟩ = some (.int .i64 (nt : Int)) := (hb2.cell (p := ⟨w.heap.size, 6, none⟩) (by simp)).trans (World.cell?_alloc_at _ _ _ _ rfl)
    have e7 : wc.cell? ⟨w.heap.size, 7, none⟩ = some (.int .i64 x.h) := (hb2.cell (p := ⟨w.heap.size, 7, none⟩) (by simp)).trans (World.cell?_alloc_at _ _ _ _ rfl)
    have e8 : wc.cell? ⟨w.heap.size, 8, none⟩ = some (.int .i64 x.i) := (hb2.cell (p := ⟨w.heap.size, 8, none⟩) (by simp)).trans (World.cell?_alloc_at _ _ _ _ rfl)
    have HM1 := Lib.hid (HM.out.below hb1)
    clear hb1 hb2
    cases rb with
    | false =>
      have e2 := HRN.out rfl
      subst e2
      go_wp2
      go_ret2
      exact ⟨_, rfl, World.ownsRow_nil _ _ _ _, HB1.out⟩
    | true =>
      go_wp2_with fail
      refine (CB.out _ HM1.out (HNE.out (by first | rfl | trivial)) (HRO.out (by first | rfl | trivial))).mono ?_
      rintro e w2 ⟨v2, rfl, o2, b2⟩
      have HO2 := Lib.hid (own_mono o2 HB1.out.size)
      have HB2 := Lib.hid (HB1.out.trans (b2.mono HB1.out.size))
      clear o2 b2
      go_wp2
      go_ret2
      exact ⟨_, rfl, HO2.out, HB2.out⟩
end Go.Proofs.Ytobloedpmjkgpaa
