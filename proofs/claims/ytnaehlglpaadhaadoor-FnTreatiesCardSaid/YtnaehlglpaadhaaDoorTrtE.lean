/- What the law on treaties draws: a list, an index and a day. -/
import Derived.Test.YtnaehlglpaadhaaDoorTrtV
namespace Go.Proofs.YtnaehlglpaadhaaDoor
set_option linter.unusedVariables false
set_option linter.unusedSimpArgs false
open Go.RowKit

set_option maxRecDepth 20000 in
set_option maxHeartbeats 8000000 in
theorem drawEndTreaty_any (B : Option Addr) (n c : Nat) (zs : List Int) (w : World) (hn : zs.length = n) (hB : Bytes w B zs) :
    Calls Tryd.prog 14 #[.slice B n c] w (RetD3 w) := by
  subst hn
  have HC0 := Lib.hid (CurB.new hB c 56)
  obtain ⟨u, hu⟩ : ∃ u : Cu, u = ⟨B, c, zs⟩ := ⟨_, rfl⟩
  rw [← hu] at HC0
  clear hu hB
  obtain ⟨p, hp⟩ : ∃ p, p = w.heap.size := ⟨_, rfl⟩
  have HP := Lib.hid hp
  have TR := Lib.hid (fun k w h hk => treaties_any p k u w h hk)
  have AM := Lib.hid (fun k n c A zs w h hk hz hn hn2 hA hf => among_any p k n c u A zs w h hk hz hn hn2 hA hf)
  have PK := Lib.hid (fun k m w h hk hm hm2 => pick_any p k m u w h hk hm hm2)
  have ON := Lib.hid (fun k m w h hk hm hm2 => one_any p k m u w h hk hm hm2)
  have TD := Lib.hid (fun k w h hk => treatyDay_any p k u w h hk)
  have HC1 : Hid (CurB (w.alloc (.cells #[.slice B zs.length c, .int .i64 0, .int .u64 0] 56)) p u 0) := Lib.hid (by rw [hp]; exact HC0.out)
  clear HC0
  have HBW : Hid (w.grownBy (w.alloc (.cells #[.slice B zs.length c, .int .i64 0, .int .u64 0] 56)) (some p)) := Lib.hid (World.grownBy_alloc w _ _)
  clear hp
  go_enter Tryd.func14, Tryd.ntmps14
  go_wp2_with fail
  rw [← HP.out]
  refine (TR.out 0 _ HC1.out (by omega)).mono ?_
  rintro e w1 ⟨v1, xs, k1, rfl, o1, hx, hk1, hc, hg⟩
  have hp1 : p < (w.alloc (.cells #[.slice B zs.length c, .int .i64 0, .int .u64 0] 56)).heap.size := by rw [HP.out]; simp
  have HO1 := Lib.hid o1
  have HG1 := Lib.hid (grown_trans HBW.out hg)
  have HC := Lib.hid hc
  clear o1 hc hg HC1 HBW
  obtain ⟨A, ca, rfl⟩ := own_form HO1.out
  have hx22 := hx
  by_cases hl0 : 0 < xs.length
  · have hl0' : (0 : Int) < (xs.length : Int) := by omega
    go_wp2_with fail
    refine (ON.out k1 6 _ HC.out (by omega) (by decide) (by decide)).mono ?_
    rintro e w2 ⟨v2, k2, rfl, ⟨b2, rfl⟩, hk2, hc, hg⟩
    have HO2 := Lib.hid (own_grown HO1.out hg hp1)
    have HG2 := Lib.hid (grown_trans HG1.out hg)
    clear HC
    have HC := Lib.hid hc
    clear hc hg HO1 HG1
    cases b2 with
    | true =>
      go_wp2_with fail
      refine (AM.out k2 3 _ (some ⟨w2.heap.size, 0, none⟩) [0, -1, 20] _ (HC.out.alloc _) (by omega) rfl (by decide) (by decide) (rd_ints (w := w2) [0, -1, 20] 3) (fun g o q e => by have := HC.out.lt; injection e with e; injection e with e; omega)).mono ?_
      rintro e w7 ⟨v7, k7, rfl, ⟨z7, -, rfl⟩, hk7, hc, hg0⟩
      have hg := grown_trans (World.grownBy_alloc w2 _ _) hg0
      have HO7 := Lib.hid (own_grown HO2.out hg hp1)
      have HG7 := Lib.hid (grown_trans HG2.out hg)
      clear HC
      have HC := Lib.hid hc
      clear hc hg hg0 HO2 HG2
      go_wp2_with fail
      refine (TD.out k7 _ HC.out (by omega)).mono ?_
      rintro e w8 ⟨v8, k8, rfl, ⟨z8, rfl⟩, hk8, hc, hg⟩
      have HO8 := Lib.hid (own_grown HO7.out hg hp1)
      have HG8 := Lib.hid (grown_trans HG7.out hg)
      clear hc hg HO7 HG7
      go_wp2
      refine bodyPost_ret (v := .tuple #[.slice A xs.length ca, .int .i64 z7, .int .i64 z8]) (by simp [results, Tryd.results14, go_sem]) rfl ?_
      exact ⟨_, xs, z7, z8, rfl, Lst.of HO8.out hx, (Below.refl _ _).grown HG8.out (Nat.le_refl _) (fun k hk => by injection hk with hk; have := HP.out; omega)⟩
    | false =>
      go_wp2_with fail
      refine (PK.out k2 xs.length _ HC.out (by omega) (by omega) (by omega)).mono ?_
      rintro e w3 ⟨v3, k3, rfl, ⟨r3, rfl, a3, b3⟩, hk3, hc, hg⟩
      have HO3 := Lib.hid (own_grown HO2.out hg hp1)
      have HG3 := Lib.hid (grown_trans HG2.out hg)
      clear HC
      have HC := Lib.hid hc
      clear hc hg HO2 HG2
      obtain ⟨m, rfl⟩ : ∃ m : Nat, r3 = m := ⟨r3.toNat, by omega⟩
      have hml : m < xs.length := by omega
      obtain ⟨x, hxm⟩ : ∃ x, xs[m]? = some x := ⟨xs[m], List.getElem?_eq_getElem hml⟩
      obtain ⟨g, o, hAe, hgl, c0, c1, c2, c3, c4⟩ := (Rd.of_own HO3.out).at5 hxm
      subst hAe
      have hgp : g ≠ p := fun e => by have := (HO3.out.lt g rfl).1; omega
      have hml' : (m : Int) < (xs.length : Int) := by omega
      have hm0 : (0 : Int) ≤ (m : Int) := by omega
      clear c0 c1 c3 c4 hxm a3 b3
      have hgl3 : g < w3.heap.size := hgl
      go_wp2_with fail
      go_region_held3 (fun w' => w'.cell? ⟨g, o + m * 5 + 2, none⟩ = some (.int .i64 x.c)) (first | go_keep | exact (app_keep hg (by simp <;> omega) (by intro e; injection e with e; exact hgp e) _).trans (by go_keep)) (first
  | (go_at_call 45; refine (AM.out k3 5 _ (some ⟨w3.heap.size, 0, none⟩) [0, 1, 4, 9, -1] _ (by first | exact (HC.out.alloc _).drew | exact HC.out.drew.alloc _ | exact HC.out.alloc _) (by omega) rfl (by decide) (by decide) (by first | exact rd_ints (w := w3) [0, 1, 4, 9, -1] 3 | exact (rd_ints (w := w3) [0, 1, 4, 9, -1] 3).below (Below.refl _ _).drew) (fun g o q e => by have := HC.out.lt; injection e with e; injection e with e; omega)).mono ?_; rintro e w4 ⟨v4, k4, rfl, ⟨z4, -, rfl⟩, hk4, hc, hg⟩))
      all_goals go_goals
      all_goals (
        have HGa := grown_trans (grown_drew (World.grownBy_alloc w3 _ (some p))) hg
        have HO4 := Lib.hid (own_grown HO3.out HGa hp1)
        have HG4 := Lib.hid (grown_trans HG3.out HGa)
        clear HC hc hg HGa HO3 HG3
        go_wp2
        refine bodyPost_ret (v := .tuple #[.slice (some ⟨g, o, none⟩) xs.length ca, .int .i64 m, .int .i64 (IntKind.i64.wrap (x.c + z4))]) (by simp [results, Tryd.results14, go_sem]) rfl ?_
        exact ⟨_, xs, m, _, rfl, Lst.of HO4.out hx, (Below.refl _ _).grown HG4.out (Nat.le_refl _) (fun k hk => by injection hk with hk; have := HP.out; omega)⟩)
  · have hl0' : (xs.length : Int) ≤ 0 := by omega
    go_wp2_with fail
    refine (AM.out k1 3 _ (some ⟨w1.heap.size, 0, none⟩) [0, -1, 20] _ (HC.out.alloc _) (by omega) rfl (by decide) (by decide) (rd_ints (w := w1) [0, -1, 20] 3) (fun g o q e => by have := HC.out.lt; injection e with e; injection e with e; omega)).mono ?_
    rintro e w7 ⟨v7, k7, rfl, ⟨z7, -, rfl⟩, hk7, hc, hg0⟩
    have hg := grown_trans (World.grownBy_alloc w1 _ _) hg0
    have HO7 := Lib.hid (own_grown HO1.out hg hp1)
    have HG7 := Lib.hid (grown_trans HG1.out hg)
    clear HC
    have HC := Lib.hid hc
    clear hc hg hg0 HO1 HG1
    go_wp2_with fail
    refine (TD.out k7 _ HC.out (by omega)).mono ?_
    rintro e w8 ⟨v8, k8, rfl, ⟨z8, rfl⟩, hk8, hc, hg⟩
    have HO8 := Lib.hid (own_grown HO7.out hg hp1)
    have HG8 := Lib.hid (grown_trans HG7.out hg)
    clear hc hg HO7 HG7
    go_wp2
    refine bodyPost_ret (v := .tuple #[.slice A xs.length ca, .int .i64 z7, .int .i64 z8]) (by simp [results, Tryd.results14, go_sem]) rfl ?_
    exact ⟨_, xs, z7, z8, rfl, Lst.of HO8.out hx, (Below.refl _ _).grown HG8.out (Nat.le_refl _) (fun k hk => by injection hk with hk; have := HP.out; omega)⟩
end Go.Proofs.YtnaehlglpaadhaaDoor
