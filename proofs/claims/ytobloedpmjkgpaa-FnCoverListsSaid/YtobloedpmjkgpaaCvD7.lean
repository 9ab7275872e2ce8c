/- What the law on lists of covers draws. -/
import Derived.Test.YtobloedpmjkgpaaCvD4
import Derived.Test.YtobloedpmjkgpaaCvD5
import Derived.Test.YtobloedpmjkgpaaCvD6
namespace Go.Proofs.Ytobloedpmjkgpaa
set_option linter.unusedVariables false
set_option linter.unusedSimpArgs false
open Go.RowKit

def RetTC (W : World) : Ending → World → Prop := fun e w' => ∃ v1 v2 v3 rs ms xs, e = .returned (.tuple #[v1, v2, v3]) ∧ Lst w' v1 rs ∧ Lst4 w' v2 ms ∧ Lst9 w' v3 xs ∧ (∀ y ∈ ms, sm4 y) ∧ Below W.heap.size W w'
def RetVC (W : World) : Ending → World → Prop := fun e w' => ∃ v1 v2 ms xs z, e = .returned (.tuple #[v1, v2, .int .i64 z]) ∧ Lst4 w' v1 ms ∧ Lst9 w' v2 xs ∧ (∀ y ∈ ms, sm4 y) ∧ Below W.heap.size W w'

set_option maxRecDepth 20000 in
set_option maxHeartbeats 4000000 in
theorem drawTrueCovers_any (B : Option Addr) (n c : Nat) (zs : List Int) (w : World) (hn : zs.length = n) (hB : Bytes w B zs) :
    Calls Try.prog 5 #[.slice B n c] w (RetTC w) := by
  subst hn
  have HC0 := Lib.hid (CurB.new hB c 47)
  obtain ⟨u, hu⟩ : ∃ u : Cu, u = ⟨B, c, zs⟩ := ⟨_, rfl⟩
  rw [← hu] at HC0
  clear hu hB
  obtain ⟨p, hp⟩ : ∃ p, p = w.heap.size := ⟨_, rfl⟩
  have HP := Lib.hid hp
  have RT := Lib.hid (fun k w h hk => rates_any p k u w h hk)
  have TT := Lib.hid (fun k w h hk => timetable_any p k u w h hk)
  have CV := Lib.hid (fun k w h hk => covers_any p k u w h hk)
  have AM := Lib.hid (fun k n c A zs w h hk hz hn hn2 hA hf => among_any p k n c u A zs w h hk hz hn hn2 hA hf)
  have HC1 : Hid (CurB (w.alloc (.cells #[.slice B zs.length c, .int .i64 0, .int .u64 0] 47)) p u 0) := Lib.hid (by rw [hp]; exact HC0.out)
  have HBW : Hid (w.grownBy (w.alloc (.cells #[.slice B zs.length c, .int .i64 0, .int .u64 0] 47)) (some p)) := Lib.hid (World.grownBy_alloc w _ _)
  obtain ⟨w0, hw0⟩ : ∃ w0, w0 = (w.alloc (.cells #[.slice B zs.length c, .int .i64 0, .int .u64 0] 47)) := ⟨_, rfl⟩
  have hs0 : w0.heap.size = w.heap.size + 1 := by rw [hw0]; simp
  have HW0 := Lib.hid hw0
  rw [← hw0] at HC1 HBW
  have hp1 : p < w0.heap.size := by rw [hp]; omega
  clear HC0 hp hw0
  go_enter Try.func5, Try.ntmps5
  go_wp2_with fail
  rw [← HP.out, ← HW0.out]
  refine (RT.out 0 _ HC1.out (by omega)).mono ?_
  rintro e w1 ⟨v1, rs, k1, rfl, o1, hl1, hk1, hc1, hg1⟩
  have HO1 := Lib.hid o1
  have HC2 := Lib.hid hc1
  have HG1 := Lib.hid (grown_trans HBW.out hg1)
  have hs1 := hg1.size
  clear o1 hc1 hg1 HC1 HBW
  go_wp2_with fail
  refine (TT.out k1 _ HC2.out (by omega)).mono ?_
  rintro e w2 ⟨v2, ms, k2, rfl, o2, hl2, hsm, hk2, hc2, hg2⟩
  have HO1b := Lib.hid (own_grown HO1.out hg2 hp1)
  have HO2 := Lib.hid o2
  have HC3 := Lib.hid hc2
  have HG2 := Lib.hid (grown_trans HG1.out hg2)
  have hs2 := hg2.size
  have HSM := Lib.hid hsm
  clear o2 hc2 hg2 HC2 HG1 HO1 hsm
  go_wp2_with fail
  refine (CV.out k2 _ HC3.out (by omega)).mono ?_
  rintro e w3 ⟨v3, xs, k3, rfl, o3, hl3, hk3, hc3, hg3⟩
  have HO1c := Lib.hid (own_grown HO1b.out hg3 hp1)
  have HO2b := Lib.hid (own_grown HO2.out hg3 (by omega))
  have HO3 := Lib.hid o3
  have HG3 := Lib.hid (grown_trans HG2.out hg3)
  clear o3 hc3 hg3 HC3 HG2 HO1b HO2
  go_wp2
  refine bodyPost_ret (v := .tuple #[v1, v2, v3]) (by simp [results, Try.results5, go_sem]) rfl ?_
  exact ⟨_, _, _, rs, ms, xs, rfl, Lst.of HO1c.out (by omega), Lst4.of HO2b.out (by omega), Lst9.of HO3.out (by omega), HSM.out, (Below.refl _ _).grown HG3.out (Nat.le_refl _) (fun k hk => by injection hk with hk; have := HP.out; omega)⟩

set_option maxRecDepth 20000 in
set_option maxHeartbeats 4000000 in
theorem drawCoversVia_any (B : Option Addr) (n c : Nat) (zs : List Int) (w : World) (hn : zs.length = n) (hB : Bytes w B zs) :
    Calls Try.prog 13 #[.slice B n c] w (RetVC w) := by
  subst hn
  have HC0 := Lib.hid (CurB.new hB c 47)
  obtain ⟨u, hu⟩ : ∃ u : Cu, u = ⟨B, c, zs⟩ := ⟨_, rfl⟩
  rw [← hu] at HC0
  clear hu hB
  obtain ⟨p, hp⟩ : ∃ p, p = w.heap.size := ⟨_, rfl⟩
  have HP := Lib.hid hp
  have RT := Lib.hid (fun k w h hk => rates_any p k u w h hk)
  have TT := Lib.hid (fun k w h hk => timetable_any p k u w h hk)
  have CV := Lib.hid (fun k w h hk => covers_any p k u w h hk)
  have AM := Lib.hid (fun k n c A zs w h hk hz hn hn2 hA hf => among_any p k n c u A zs w h hk hz hn hn2 hA hf)
  have HC1 : Hid (CurB (w.alloc (.cells #[.slice B zs.length c, .int .i64 0, .int .u64 0] 47)) p u 0) := Lib.hid (by rw [hp]; exact HC0.out)
  have HBW : Hid (w.grownBy (w.alloc (.cells #[.slice B zs.length c, .int .i64 0, .int .u64 0] 47)) (some p)) := Lib.hid (World.grownBy_alloc w _ _)
  obtain ⟨w0, hw0⟩ : ∃ w0, w0 = (w.alloc (.cells #[.slice B zs.length c, .int .i64 0, .int .u64 0] 47)) := ⟨_, rfl⟩
  have hs0 : w0.heap.size = w.heap.size + 1 := by rw [hw0]; simp
  have HW0 := Lib.hid hw0
  rw [← hw0] at HC1 HBW
  have hp1 : p < w0.heap.size := by rw [hp]; omega
  clear HC0 hp hw0
  go_enter Try.func13, Try.ntmps13
  go_wp2_with fail
  rw [← HP.out, ← HW0.out]
  refine (TT.out 0 _ HC1.out (by omega)).mono ?_
  rintro e w1 ⟨v1, ms, k1, rfl, o1, hl1, hsm, hk1, hc1, hg1⟩
  have HO1 := Lib.hid o1
  have HC2 := Lib.hid hc1
  have HG1 := Lib.hid (grown_trans HBW.out hg1)
  have hs1 := hg1.size
  have HSM := Lib.hid hsm
  clear o1 hc1 hg1 HC1 HBW hsm
  go_wp2_with fail
  refine (CV.out k1 _ HC2.out (by omega)).mono ?_
  rintro e w2 ⟨v2, xs, k2, rfl, o2, hl2, hk2, hc2, hg2⟩
  have HO1b := Lib.hid (own_grown HO1.out hg2 hp1)
  have HO2 := Lib.hid o2
  have HC3 := Lib.hid hc2
  have HG2 := Lib.hid (grown_trans HG1.out hg2)
  have hs2 := hg2.size
  clear o2 hc2 hg2 HC2 HG1 HO1
  go_wp2_with fail
  refine (AM.out k2 7 _ (some ⟨w2.heap.size, 0, none⟩) [0, 1, 2, 3, 9, 10, -1] _ (HC3.out.alloc _) (by omega) rfl (by decide) (by decide) (rd_ints (w := w2) [0, 1, 2, 3, 9, 10, -1] 3) (fun g o q e => by have := HC3.out.lt; injection e with e; injection e with e; omega)).mono ?_
  rintro e w3 ⟨v3, k3, rfl, ⟨z3, -, rfl⟩, hk3, hc, hg⟩
  have hg' := grown_trans (World.grownBy_alloc w2 _ _) hg
  have HO1c := Lib.hid (own_grown HO1b.out hg' hp1)
  have HO2b := Lib.hid (own_grown HO2.out hg' (by omega))
  have HG3 := Lib.hid (grown_trans HG2.out hg')
  clear hc hg hg' HC3 HG2 HO1b HO2
  go_wp2
  refine bodyPost_ret (v := .tuple #[v1, v2, .int .i64 z3]) (by simp [results, Try.results13, go_sem]) rfl ?_
  exact ⟨_, _, ms, xs, z3, rfl, Lst4.of HO1c.out (by omega), Lst9.of HO2b.out (by omega), HSM.out, (Below.refl _ _).grown HG3.out (Nat.le_refl _) (fun k hk => by injection hk with hk; have := HP.out; omega)⟩
end Go.Proofs.Ytobloedpmjkgpaa
