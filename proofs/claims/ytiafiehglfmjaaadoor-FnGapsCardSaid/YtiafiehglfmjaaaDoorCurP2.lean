/- What the law on gaps draws: one insurance. -/
import Derived.Test.YtiafiehglfmjaaaDoorCurP
namespace Go.Proofs.YtiafiehglfmjaaaDoor
set_option linter.unusedVariables false
set_option linter.unusedSimpArgs false
open Go.RowKit

def RetDT (W : World) : Ending → World → Prop := fun e w' => ∃ x : R5, e = .returned (.agg #[.int .i64 x.a, .int .i64 x.b, .int .i64 x.c, .int .i64 x.d, .int .i64 x.e]) ∧ Below W.heap.size W w'

set_option maxRecDepth 20000 in
set_option maxHeartbeats 4000000 in
theorem drawInsuredText_any (B : Option Addr) (n c : Nat) (zs : List Int) (w : World) (hn : zs.length = n) (hB : Bytes w B zs) :
    Calls Tryd.prog 16 #[.slice B n c] w (RetDT w) := by
  subst hn
  have hB := hB.below ((Below.refl _ _).alloc (Nat.le_refl _) (.cells #[.int .i64 0, .int .i64 0, .int .i64 0, .int .i64 0, .int .i64 0] 33))
  have HC0 := Lib.hid (CurB.new hB c 46)
  obtain ⟨u, hu⟩ : ∃ u : Cu, u = ⟨B, c, zs⟩ := ⟨_, rfl⟩
  rw [← hu] at HC0
  clear hu hB
  obtain ⟨p, hp⟩ : ∃ p, p = w.heap.size + 1 := ⟨_, rfl⟩
  have HP := Lib.hid hp
  have AM := Lib.hid (fun k n c A zs w h hk hz hn hn2 hA hf => among_any p k n c u A zs w h hk hz hn hn2 hA hf)
  have II := Lib.hid (fun k a b w h hk => insured26_any p k u a b w h hk)
  obtain ⟨w0, hw0⟩ : ∃ w0, w0 = ((w.alloc (.cells #[.int .i64 0, .int .i64 0, .int .i64 0, .int .i64 0, .int .i64 0] 33)).alloc (.cells #[.slice B zs.length c, .int .i64 0, .int .u64 0] 46)) := ⟨_, rfl⟩
  have hs0 : w0.heap.size = w.heap.size + 1 + 1 := by rw [hw0]; simp
  have HC : Hid (CurB w0 p u 0) := Lib.hid (by have h := HC0.out; rw [hw0, hp]; simpa using h)
  have KR0 : Hid (Blk w0 w.heap.size [.int .i64 0, .int .i64 0, .int .i64 0, .int .i64 0, .int .i64 0]) := Lib.hid (by rw [hw0]; exact (Blk.new w _ _).alloc _)
  have HG0 : Hid (w.grownBy w0 (some p)) := Lib.hid (by rw [hw0]; exact grown_alloc (World.grownBy_alloc w _ _) _)
  have HW := Lib.hid hw0
  clear HC0 hp hw0
  go_enter Tryd.func16, Tryd.ntmps16
  go_wp2_with fail
  rw [← HW.out, ← hs0, ← HP.out]
  refine (AM.out 0 3 _ (some ⟨w0.heap.size, 0, none⟩) [1, 42, 999] _ (HC.out.alloc _) (by omega) rfl (by decide) (by decide) (rd_ints (w := w0) [1, 42, 999] 3) (fun g o q e => by have := HC.out.lt; injection e with e; injection e with e; omega)).mono ?_
  rintro e w1 ⟨v1, k1, rfl, ⟨z1, -, rfl⟩, hk1, hc, hg0⟩
  have hg := grown_trans (World.grownBy_alloc w0 _ _) hg0
  have HG1 := Lib.hid (grown_trans HG0.out hg)
  have KR1 := Lib.hid (KR0.out.grown hg (by rw [HP.out]; simp))
  clear HC
  have HC := Lib.hid hc
  clear hc hg hg0 HG0 KR0
  go_wp2_with fail
  refine (AM.out k1 3 _ (some ⟨w1.heap.size, 0, none⟩) [0, 42, 4000] _ (HC.out.alloc _) (by omega) rfl (by decide) (by decide) (rd_ints (w := w1) [0, 42, 4000] 3) (fun g o q e => by have := HC.out.lt; injection e with e; injection e with e; omega)).mono ?_
  rintro e w2 ⟨v2, k2, rfl, ⟨z2, -, rfl⟩, hk2, hc, hg0⟩
  have hg := grown_trans (World.grownBy_alloc w1 _ _) hg0
  have HG2 := Lib.hid (grown_trans HG1.out hg)
  have KR2 := Lib.hid (KR1.out.grown hg (by rw [HP.out]; simp))
  clear HC
  have HC := Lib.hid hc
  clear hc hg hg0 HG1 KR1
  go_wp2_with fail
  refine (II.out k2 z1 z2 _ HC.out (by omega)).mono ?_
  rintro e w4 ⟨v4, k4, rfl, ⟨x, rfl⟩, hk4, hc, hg⟩
  have HG4 := Lib.hid (grown_trans HG2.out hg)
  have KR4 := Lib.hid (KR2.out.grown hg (by rw [HP.out]; simp))
  clear hc hg
  have rr0 := KR4.out.cell 0 _ rfl
  have rf0 := KR4.out.fr 0 (by simp)
  have rr1 := KR4.out.cell 1 _ rfl
  have rf1 := KR4.out.fr 1 (by simp)
  have rr2 := KR4.out.cell 2 _ rfl
  have rf2 := KR4.out.fr 2 (by simp)
  have rr3 := KR4.out.cell 3 _ rfl
  have rf3 := KR4.out.fr 3 (by simp)
  have rr4 := KR4.out.cell 4 _ rfl
  have rf4 := KR4.out.fr 4 (by simp)
  have hl4 := KR4.out.lt
  go_wp2
  have HGF := (grown_other (grown_other (grown_other (grown_other (grown_other HG4.out (Nat.le_refl _) 0 (.int .i64 x.a)) (Nat.le_refl _) 1 (.int .i64 x.b)) (Nat.le_refl _) 2 (.int .i64 x.c)) (Nat.le_refl _) 3 (.int .i64 x.d)) (Nat.le_refl _) 4 (.int .i64 x.e))
  exact bodyPost_ret (v := .agg #[.int .i64 x.a, .int .i64 x.b, .int .i64 x.c, .int .i64 x.d, .int .i64 x.e]) (by simp [results, Tryd.results16, go_sem, rr0, rr1, rr2, rr3, rr4]) rfl ⟨x, rfl, (Below.refl _ _).grown HGF (Nat.le_refl _) (fun k hk => by injection hk with hk; have := HP.out; omega)⟩
end Go.Proofs.YtiafiehglfmjaaaDoor
