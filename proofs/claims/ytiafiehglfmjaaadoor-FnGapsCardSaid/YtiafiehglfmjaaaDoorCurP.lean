/- What the law on gaps draws. -/
import Derived.Test.YtiafiehglfmjaaaDoorCurK
namespace Go.Proofs.YtiafiehglfmjaaaDoor
set_option linter.unusedVariables false
set_option linter.unusedSimpArgs false
open Go.RowKit

theorem own_far {w : World} {base e n c : Nat} {A : Option Addr} {cs : List Value} (h : w.ownsRow base e 5 (.slice A n c) n cs) {p : Nat} (hp : p < base) : ∀ g o q, A = some ⟨g, o, q⟩ → g ≠ p := fun g o q e' => by
  subst e'
  have := (h.lt g rfl).1
  omega
def RetD2 (W : World) : Ending → World → Prop := fun e w' => ∃ v xs a, e = .returned (.tuple #[v, .int .i64 a]) ∧ Lst w' v xs ∧ Below W.heap.size W w'
def RetD3 (W : World) : Ending → World → Prop := fun e w' => ∃ v xs a b, e = .returned (.tuple #[v, .int .i64 a, .int .i64 b]) ∧ Lst w' v xs ∧ Below W.heap.size W w'
def RetD4 (W : World) : Ending → World → Prop := fun e w' => ∃ v xs a b d, e = .returned (.tuple #[v, .int .i64 a, .int .i64 b, .int .i64 d]) ∧ Lst w' v xs ∧ Below W.heap.size W w'

set_option maxRecDepth 20000 in
set_option maxHeartbeats 2000000 in
theorem drawFirstGap_any (B : Option Addr) (n c : Nat) (zs : List Int) (w : World) (hn : zs.length = n) (hB : Bytes w B zs) :
    Calls Tryd.prog 5 #[.slice B n c] w (RetD2 w) := by
  subst hn
  have HC0 := Lib.hid (CurB.new hB c 46)
  obtain ⟨u, hu⟩ : ∃ u : Cu, u = ⟨B, c, zs⟩ := ⟨_, rfl⟩
  rw [← hu] at HC0
  clear hu hB
  obtain ⟨p, hp⟩ : ∃ p, p = w.heap.size := ⟨_, rfl⟩
  have HP := Lib.hid hp
  have TR := Lib.hid (fun k w h hk => insureds26_any p k u w h hk)
  have IT := Lib.hid (fun k w A n c xs hn hx hA hf h hk => item26_any p k u w A n c xs hn hx hA hf h hk)
  have DY := Lib.hid (fun k w A n c xs hn hx hA hf h hk => day26_any p k u w A n c xs hn hx hA hf h hk)
  have HC1 : Hid (CurB (w.alloc (.cells #[.slice B zs.length c, .int .i64 0, .int .u64 0] 46)) p u 0) := Lib.hid (by rw [hp]; exact HC0.out)
  have HBW : Hid (w.grownBy (w.alloc (.cells #[.slice B zs.length c, .int .i64 0, .int .u64 0] 46)) (some p)) := Lib.hid (World.grownBy_alloc w _ _)
  clear HC0 hp
  go_enter Tryd.func5, Tryd.ntmps5
  go_wp2_with fail
  rw [← HP.out]
  refine (TR.out 0 _ HC1.out (by omega)).mono ?_
  rintro e w1 ⟨v1, xs, k1, rfl, o1, hx, hk1, hc, hg⟩
  have hp1 : p < (w.alloc (.cells #[.slice B zs.length c, .int .i64 0, .int .u64 0] 46)).heap.size := by rw [HP.out]; simp
  obtain ⟨A, ca, rfl⟩ := own_form o1
  have HO1 := Lib.hid o1
  have HG1 := Lib.hid (grown_trans HBW.out hg)
  have HC := Lib.hid hc
  clear o1 hc hg HC1 HBW
  go_wp2_with fail
  refine (IT.out k1 _ A xs.length ca xs rfl hx (Rd.of_own HO1.out) (own_far HO1.out hp1) HC.out (by omega)).mono ?_
  rintro e w2 ⟨v2, k2, rfl, ⟨z2, rfl⟩, hk2, hc, hg⟩
  have HO2 := Lib.hid (own_grown HO1.out hg hp1)
  have HG2 := Lib.hid (grown_trans HG1.out hg)
  clear HC
  have HC := Lib.hid hc
  clear hc hg HO1 HG1
  go_wp2
  refine bodyPost_ret (v := .tuple #[.slice A xs.length ca, .int .i64 z2]) (by simp [results, Tryd.results5, go_sem]) rfl ?_
  exact ⟨_, xs, z2, rfl, Lst.of HO2.out hx, (Below.refl _ _).grown HG2.out (Nat.le_refl _) (fun k hk => by injection hk with hk; have := HP.out; omega)⟩

set_option maxRecDepth 20000 in
set_option maxHeartbeats 2000000 in
theorem drawCoverOn_any (B : Option Addr) (n c : Nat) (zs : List Int) (w : World) (hn : zs.length = n) (hB : Bytes w B zs) :
    Calls Tryd.prog 14 #[.slice B n c] w (RetD3 w) := by
  subst hn
  have HC0 := Lib.hid (CurB.new hB c 46)
  obtain ⟨u, hu⟩ : ∃ u : Cu, u = ⟨B, c, zs⟩ := ⟨_, rfl⟩
  rw [← hu] at HC0
  clear hu hB
  obtain ⟨p, hp⟩ : ∃ p, p = w.heap.size := ⟨_, rfl⟩
  have HP := Lib.hid hp
  have TR := Lib.hid (fun k w h hk => insureds26_any p k u w h hk)
  have IT := Lib.hid (fun k w A n c xs hn hx hA hf h hk => item26_any p k u w A n c xs hn hx hA hf h hk)
  have DY := Lib.hid (fun k w A n c xs hn hx hA hf h hk => day26_any p k u w A n c xs hn hx hA hf h hk)
  have HC1 : Hid (CurB (w.alloc (.cells #[.slice B zs.length c, .int .i64 0, .int .u64 0] 46)) p u 0) := Lib.hid (by rw [hp]; exact HC0.out)
  have HBW : Hid (w.grownBy (w.alloc (.cells #[.slice B zs.length c, .int .i64 0, .int .u64 0] 46)) (some p)) := Lib.hid (World.grownBy_alloc w _ _)
  clear HC0 hp
  go_enter Tryd.func14, Tryd.ntmps14
  go_wp2_with fail
  rw [← HP.out]
  refine (TR.out 0 _ HC1.out (by omega)).mono ?_
  rintro e w1 ⟨v1, xs, k1, rfl, o1, hx, hk1, hc, hg⟩
  have hp1 : p < (w.alloc (.cells #[.slice B zs.length c, .int .i64 0, .int .u64 0] 46)).heap.size := by rw [HP.out]; simp
  obtain ⟨A, ca, rfl⟩ := own_form o1
  have HO1 := Lib.hid o1
  have HG1 := Lib.hid (grown_trans HBW.out hg)
  have HC := Lib.hid hc
  clear o1 hc hg HC1 HBW
  go_wp2_with fail
  refine (IT.out k1 _ A xs.length ca xs rfl hx (Rd.of_own HO1.out) (own_far HO1.out hp1) HC.out (by omega)).mono ?_
  rintro e w2 ⟨v2, k2, rfl, ⟨z2, rfl⟩, hk2, hc, hg⟩
  have HO2 := Lib.hid (own_grown HO1.out hg hp1)
  have HG2 := Lib.hid (grown_trans HG1.out hg)
  clear HC
  have HC := Lib.hid hc
  clear hc hg HO1 HG1
  go_wp2_with fail
  refine (DY.out k2 _ A xs.length ca xs rfl hx (Rd.of_own HO2.out) (own_far HO2.out hp1) HC.out (by omega)).mono ?_
  rintro e w3 ⟨v3, k3, rfl, ⟨z3, rfl⟩, hk3, hc, hg⟩
  have HO3 := Lib.hid (own_grown HO2.out hg hp1)
  have HG3 := Lib.hid (grown_trans HG2.out hg)
  clear HC
  have HC := Lib.hid hc
  clear hc hg HO2 HG2
  go_wp2
  refine bodyPost_ret (v := .tuple #[.slice A xs.length ca, .int .i64 z2, .int .i64 z3]) (by simp [results, Tryd.results14, go_sem]) rfl ?_
  exact ⟨_, xs, z2, z3, rfl, Lst.of HO3.out hx, (Below.refl _ _).grown HG3.out (Nat.le_refl _) (fun k hk => by injection hk with hk; have := HP.out; omega)⟩

set_option maxRecDepth 20000 in
set_option maxHeartbeats 2000000 in
theorem drawUncoveredDays_any (B : Option Addr) (n c : Nat) (zs : List Int) (w : World) (hn : zs.length = n) (hB : Bytes w B zs) :
    Calls Tryd.prog 11 #[.slice B n c] w (RetD4 w) := by
  have AM := Lib.hid (fun p u k n c A zs w h hk hz hn hn2 hA hf => among_any p k n c u A zs w h hk hz hn hn2 hA hf)
  have ON := Lib.hid (fun p u k m w h hk hm hm2 => one_any p k m u w h hk hm hm2)
  subst hn
  have HC0 := Lib.hid (CurB.new hB c 46)
  obtain ⟨u, hu⟩ : ∃ u : Cu, u = ⟨B, c, zs⟩ := ⟨_, rfl⟩
  rw [← hu] at HC0
  clear hu hB
  obtain ⟨p, hp⟩ : ∃ p, p = w.heap.size := ⟨_, rfl⟩
  have HP := Lib.hid hp
  have TR := Lib.hid (fun k w h hk => insureds26_any p k u w h hk)
  have IT := Lib.hid (fun k w A n c xs hn hx hA hf h hk => item26_any p k u w A n c xs hn hx hA hf h hk)
  have DY := Lib.hid (fun k w A n c xs hn hx hA hf h hk => day26_any p k u w A n c xs hn hx hA hf h hk)
  have HC1 : Hid (CurB (w.alloc (.cells #[.slice B zs.length c, .int .i64 0, .int .u64 0] 46)) p u 0) := Lib.hid (by rw [hp]; exact HC0.out)
  have HBW : Hid (w.grownBy (w.alloc (.cells #[.slice B zs.length c, .int .i64 0, .int .u64 0] 46)) (some p)) := Lib.hid (World.grownBy_alloc w _ _)
  clear HC0 hp
  go_enter Tryd.func11, Tryd.ntmps11
  go_wp2_with fail
  rw [← HP.out]
  refine (TR.out 0 _ HC1.out (by omega)).mono ?_
  rintro e w1 ⟨v1, xs, k1, rfl, o1, hx, hk1, hc, hg⟩
  have hp1 : p < (w.alloc (.cells #[.slice B zs.length c, .int .i64 0, .int .u64 0] 46)).heap.size := by rw [HP.out]; simp
  obtain ⟨A, ca, rfl⟩ := own_form o1
  have HO1 := Lib.hid o1
  have HG1 := Lib.hid (grown_trans HBW.out hg)
  have HC := Lib.hid hc
  clear o1 hc hg HC1 HBW
  go_wp2_with fail
  refine (DY.out k1 _ A xs.length ca xs rfl hx (Rd.of_own HO1.out) (own_far HO1.out hp1) HC.out (by omega)).mono ?_
  rintro e w2 ⟨v2, k2, rfl, ⟨z2, rfl⟩, hk2, hc, hg⟩
  have HO2 := Lib.hid (own_grown HO1.out hg hp1)
  have HG2 := Lib.hid (grown_trans HG1.out hg)
  clear HC
  have HC := Lib.hid hc
  clear hc hg HO1 HG1
  go_wp2_with fail
  refine (AM.out p u k2 4 _ (some ⟨w2.heap.size, 0, none⟩) [0, 1, 30, 300] _ (HC.out.alloc _) (by omega) rfl (by decide) (by decide) (rd_ints (w := w2) [0, 1, 30, 300] 3) (fun g o q e => by have := HC.out.lt; injection e with e; injection e with e; omega)).mono ?_
  rintro e w3 ⟨v3, k3, rfl, ⟨z3, -, rfl⟩, hk3, hc, hg0⟩
  have hg := grown_trans (World.grownBy_alloc w2 _ _) hg0
  have HO3 := Lib.hid (own_grown HO2.out hg hp1)
  have HG3 := Lib.hid (grown_trans HG2.out hg)
  clear HC
  have HC := Lib.hid hc
  clear hc hg HO2 HG2
  go_wp2_with fail
  refine (ON.out p u k3 5 _ HC.out (by omega) (by decide) (by decide)).mono ?_
  rintro e w4 ⟨v4, k4, rfl, ⟨b4, rfl⟩, hk4, hc, hg⟩
  have HO4 := Lib.hid (own_grown HO3.out hg hp1)
  have HG4 := Lib.hid (grown_trans HG3.out hg)
  clear HC
  have HC := Lib.hid hc
  clear hc hg HO3 HG3
  cases b4 with
  | false =>
    go_wp2_with fail
    refine (IT.out k4 _ A xs.length ca xs rfl hx (Rd.of_own HO4.out) (own_far HO4.out hp1) HC.out (by omega)).mono ?_
    rintro e w5 ⟨v5, k5, rfl, ⟨z5, rfl⟩, hk5, hc, hg⟩
    have HO5 := Lib.hid (own_grown HO4.out hg hp1)
    have HG5 := Lib.hid (grown_trans HG4.out hg)
    clear HC
    have HC := Lib.hid hc
    clear hc hg HO4 HG4
    go_wp2
    refine bodyPost_ret (v := .tuple #[.slice A xs.length ca, .int .i64 z5, .int .i64 z2, .int .i64 (wrap64 (z2 + z3))]) (by simp [results, Tryd.results11, go_sem]) rfl ?_
    exact ⟨_, xs, z5, z2, (wrap64 (z2 + z3)), rfl, Lst.of HO5.out hx, (Below.refl _ _).grown HG5.out (Nat.le_refl _) (fun k hk => by injection hk with hk; have := HP.out; omega)⟩
  | true =>
    go_wp2_with fail
    refine (DY.out k4 _ A xs.length ca xs rfl hx (Rd.of_own HO4.out) (own_far HO4.out hp1) HC.out (by omega)).mono ?_
    rintro e w5 ⟨v5, k5, rfl, ⟨z5, rfl⟩, hk5, hc, hg⟩
    have HO5 := Lib.hid (own_grown HO4.out hg hp1)
    have HG5 := Lib.hid (grown_trans HG4.out hg)
    clear HC
    have HC := Lib.hid hc
    clear hc hg HO4 HG4
    go_wp2_with fail
    refine (IT.out k5 _ A xs.length ca xs rfl hx (Rd.of_own HO5.out) (own_far HO5.out hp1) HC.out (by omega)).mono ?_
    rintro e w6 ⟨v6, k6, rfl, ⟨z6, rfl⟩, hk6, hc, hg⟩
    have HO6 := Lib.hid (own_grown HO5.out hg hp1)
    have HG6 := Lib.hid (grown_trans HG5.out hg)
    clear HC
    have HC := Lib.hid hc
    clear hc hg HO5 HG5
    go_wp2
    refine bodyPost_ret (v := .tuple #[.slice A xs.length ca, .int .i64 z6, .int .i64 z2, .int .i64 z5]) (by simp [results, Tryd.results11, go_sem]) rfl ?_
    exact ⟨_, xs, z6, z2, z5, rfl, Lst.of HO6.out hx, (Below.refl _ _).grown HG6.out (Nat.le_refl _) (fun k hk => by injection hk with hk; have := HP.out; omega)⟩

end Go.Proofs.YtiafiehglfmjaaaDoor
