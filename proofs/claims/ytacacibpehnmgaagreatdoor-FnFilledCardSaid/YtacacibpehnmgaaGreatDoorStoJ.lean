/- Stock book: SwapStrips of the program. -/
import Derived.Test.YtacacibpehnmgaaGreatDoorStoI
import Derived.BigRegion
namespace Go.Proofs.YtacacibpehnmgaaGreatDoor
set_option linter.unusedVariables false
set_option linter.unusedSimpArgs false
open Go.RowKit

theorem swB_no1 {xs : List BR} (a b : Int) (h : bookB xs = false) : swB xs a b = false := by simp [swB, findV, h]
theorem own_somei {w : World} {base e size n c : Nat} {A : Option Addr} {cs : List Value} (h : w.ownsRow base e size (.slice A n c) n cs) (hn : 0 < n) : ∃ g, A = some ⟨g, 0, none⟩ := by
  rcases h.2 with ⟨h', h0⟩ | ⟨g, cap, cur, h', _⟩
  · omega
  · injection h' with h1; exact ⟨g, h1⟩

set_option maxRecDepth 20000 in
set_option maxHeartbeats 4000000 in
theorem implSwapStrips_any (A : Option Addr) (n c : Nat) (xs : List BR) (a b : Int) (w : World) (hn : xs.length = n) (hA : RdB w A xs) (h20 : n ≤ 1048576) (hw : ∀ x ∈ xs, x.ws.length ≤ 1048576) :
    Calls Tryz.prog 17 #[.slice A n c, .int .i64 a, .int .i64 b] w (RetBB 34 3 (swV xs a b) (swB xs a b) w) := by
  have C1 := Lib.hid (fun w h => stripAt_any A n c xs a w hn h (by omega))
  have C2 := Lib.hid (fun w h => stripAt_any A n c xs b w hn h (by omega))
  have C := Lib.hid (fun w h => isStockBook_any A n c xs w hn h (by omega) (hw1 hw))
  have HA := Lib.hid hA
  cases hv : bookB xs with
  | false =>
    rw [hv] at C
    rw [swV, swB_no1 a b hv, if_neg (by simp)]
    obtain ⟨p, hp⟩ : ∃ p, p = idxV (hasId a) xs := ⟨_, rfl⟩
    obtain ⟨q, hq⟩ : ∃ q, q = idxV (hasId b) xs := ⟨_, rfl⟩
    rw [← hp] at C1
    rw [← hq] at C2
    clear hv hp hq hn hw hA
    go_enter Tryz.func17, Tryz.ntmps17
    go_wp2_with fail
    refine (C1.out _ HA.out).mono ?_
    rintro e w1 ⟨rfl, b1⟩
    go_wp2_with fail
    refine (C2.out _ (HA.out.below b1)).mono ?_
    rintro e w2 ⟨rfl, b2⟩
    have hb2 := b1.trans (b2.mono b1.size)
    go_wp2_with fail
    refine (C.out _ (HA.out.below hb2)).mono ?_
    rintro e w3 ⟨rfl, b3⟩
    go_wp2
    go_ret2
    exact ⟨_, [], rfl, ownB_nil _ _ _ _, hb2.trans (b3.mono hb2.size)⟩
  | true =>
    rw [hv] at C
    have hf : ∀ z, findV xs z = idxV (hasId z) xs := fun z => by simp [findV, hv]
    rcases sw_ways xs a b with ⟨hB, hff⟩ | ⟨hB, -, i, k, x, y, h1, h2, hi, hk, hx, hy, hrx, hry, hV⟩
    · rw [swV, hB, if_neg (by simp)]
      rw [hf, hf] at hff
      obtain ⟨p, hp⟩ : ∃ p, p = idxV (hasId a) xs := ⟨_, rfl⟩
      obtain ⟨q, hq⟩ : ∃ q, q = idxV (hasId b) xs := ⟨_, rfl⟩
      rw [← hp] at C1 hff
      rw [← hq] at C2 hff
      clear hv hp hq hn hw hA hf hB
      by_cases hp0 : p < 0
      · have hd : decide (p < 0) = true := by simpa using hp0
        go_enter Tryz.func17, Tryz.ntmps17
        go_wp2_with fail
        refine (C1.out _ HA.out).mono ?_
        rintro e w1 ⟨rfl, b1⟩
        go_wp2_with fail
        refine (C2.out _ (HA.out.below b1)).mono ?_
        rintro e w2 ⟨rfl, b2⟩
        have hb2 := b1.trans (b2.mono b1.size)
        go_wp2_with fail
        refine (C.out _ (HA.out.below hb2)).mono ?_
        rintro e w3 ⟨rfl, b3⟩
        go_wp2
        go_ret2
        exact ⟨_, [], rfl, ownB_nil _ _ _ _, hb2.trans (b3.mono hb2.size)⟩
      · have hd : decide (p < 0) = false := by simpa using hp0
        have hq0 : q < 0 := by omega
        have hd2 : decide (q < 0) = true := by simpa using hq0
        go_enter Tryz.func17, Tryz.ntmps17
        go_wp2_with fail
        refine (C1.out _ HA.out).mono ?_
        rintro e w1 ⟨rfl, b1⟩
        go_wp2_with fail
        refine (C2.out _ (HA.out.below b1)).mono ?_
        rintro e w2 ⟨rfl, b2⟩
        have hb2 := b1.trans (b2.mono b1.size)
        go_wp2_with fail
        refine (C.out _ (HA.out.below hb2)).mono ?_
        rintro e w3 ⟨rfl, b3⟩
        go_wp2
        go_ret2
        exact ⟨_, [], rfl, ownB_nil _ _ _ _, hb2.trans (b3.mono hb2.size)⟩
    · rw [hB]
      have C4 := Lib.hid (fun w h => copyBook_any A n c xs w hn h h20 hw)
      rw [← hf a, h1] at C1
      rw [← hf b, h2] at C2
      have HX := Lib.hid hx
      have HY := Lib.hid hy
      have HN := Lib.hid hn
      have HV : Hid (swV xs a b = (xs.set i ⟨x.id, y.ws⟩).set k ⟨y.id, x.ws⟩) := by
        refine Lib.hid ?_
        rw [hV, withV_at hx]
        by_cases e : i = k
        · subst e
          rw [hx] at hy; injection hy with hy; subst hy
          rw [withV_at (x := ⟨x.id, x.ws⟩) (List.getElem?_set_self hi)]
        · rw [withV_at (x := y) (by rw [List.getElem?_set_ne e]; exact hy)]
      have hin : i < n := by omega
      have hkn : k < n := by omega
      clear hv hn hw hA hf hB h1 h2 hx hy hV hrx hry hi hk
      go_enter Tryz.func17, Tryz.ntmps17
      go_wp2_with fail
      refine (C1.out _ HA.out).mono ?_
      rintro e w1 ⟨rfl, b1⟩
      go_wp2_with fail
      refine (C2.out _ (HA.out.below b1)).mono ?_
      rintro e w2 ⟨rfl, b2⟩
      have hb2 := b1.trans (b2.mono b1.size)
      go_wp2_with fail
      refine (C.out _ (HA.out.below hb2)).mono ?_
      rintro e w3 ⟨rfl, b3⟩
      have hb3 := Lib.hid (hb2.trans (b3.mono hb2.size))
      clear b1 b2 b3 hb2
      go_wp2_with fail
      refine (C4.out _ (HA.out.below hb3.out)).mono ?_
      rintro e w4 ⟨v, vs, rfl, ob, b4⟩
      have hrow := ob.2.1
      rw [HN.out] at hrow
      obtain ⟨Av, cv, rfl⟩ := own_form hrow
      obtain ⟨gg, rfl⟩ := own_somei hrow (by omega)
      obtain ⟨p, hp⟩ : ∃ p, vs[i]? = some p := ⟨vs[i]'(by have := ob.1; have := HN.out; omega), List.getElem?_eq_getElem _⟩
      obtain ⟨q, hq⟩ : ∃ q, vs[k]? = some q := ⟨vs[k]'(by have := ob.1; have := HN.out; omega), List.getElem?_eq_getElem _⟩
      have ep : w4.cell? ⟨gg, i * 2 + 1, none⟩ = some p := by rw [hrow.cellAt _ (by omega)]; exact (cellsB_get HX.out hp).2
      have eq : w4.cell? ⟨gg, k * 2 + 1, none⟩ = some q := by rw [hrow.cellAt _ (by omega)]; exact (cellsB_get HY.out hq).2
      have fp := hrow.frozenAt (i * 2 + 1)
      have fq := hrow.frozenAt (k * 2 + 1)
      obtain ⟨Ap, cp, rfl⟩ := own_form (ob.2.2.1 i x p HX.out hp)
      obtain ⟨Aq, cq, rfl⟩ := own_form (ob.2.2.1 k y q HY.out hq)
      have HSW := Lib.hid (ob.swap HN.out HX.out HY.out hp hq)
      have B4 := Lib.hid (hb3.out.trans (b4.mono hb3.out.size))
      have hs3 := hb3.out.size
      have hgg := Lib.hid ((show w3.heap.size ≤ gg from (ob.lt 0 _ gg rfl rfl).1))
      have hst := (hrow.stored (i * 2 + 1) (.slice Aq y.ws.length cq)).1
      obtain ⟨z, hz⟩ : ∃ z, (w4.setCell ⟨gg, i * 2 + 1, none⟩ (.slice Aq y.ws.length cq)).cell? ⟨gg, k * 2 + 1, none⟩ = some z := ⟨_, (hst.cellAt (k * 2 + 1) (by omega)).trans (List.getElem?_eq_getElem (by rw [hst.1]; omega))⟩
      clear hrow hp hq ob b4 C C1 C2 C4 hst
      go_wp2_with fail
      go_region
      all_goals go_goals
      go_wp2
      go_ret2
      refine ⟨.slice (some ⟨gg, 0, none⟩) n cv, (vs.set i (.slice Aq y.ws.length cq)).set k (.slice Ap x.ws.length cp), rfl, ?_, ?_⟩
      · rw [HV.out]; exact (HSW.out.mono hs3).drew
      · exact ((B4.out.setCell (by have := hgg.out; show w.heap.size ≤ gg; omega) _).setCell (by have := hgg.out; show w.heap.size ≤ gg; omega) _).drew
end Go.Proofs.YtacacibpehnmgaaGreatDoor
