/- What the law on clients draws: an approval. -/
import Derived.Test.YtehohkdipfphmaaDoorDrA4
namespace Go.Proofs.YtehohkdipfphmaaDoor
set_option linter.unusedVariables false
set_option linter.unusedSimpArgs false
open Go.RowKit

def RetAX (W : World) : Ending → World → Prop := fun e w' => ∃ x A c D d, e = .returned (.agg #[.int .i64 x.id, .string x.client, .int .i64 x.sent, .slice A x.items.length c, .slice D x.kept.length d, .int .i64 x.back]) ∧ dsA x ∧ (x.items.length ≤ c ∧ c ≤ maxLen) ∧ (x.kept.length ≤ d ∧ d ≤ maxLen) ∧ Rd w' A (cells1 x.items) ∧ Rd w' D (cells1 x.kept) ∧ Below W.heap.size W w'
set_option maxRecDepth 20000 in
set_option maxHeartbeats 400000 in
theorem drawApprovalText_any (B : Option Addr) (n c : Nat) (zs : List Int) (w : World) (hn : zs.length = n) (hB : Bytes w B zs) :
    Calls Tryd.prog 20 #[.slice B n c] w (RetAX w) := by
  subst hn
  have hB := hB.below ((Below.refl _ _).alloc (Nat.le_refl _) (.cells #[.int .i64 0, .string ⟨#[]⟩, .int .i64 0, .slice none 0 0, .slice none 0 0, .int .i64 0] 34))
  have HC0 := Lib.hid (CurB.new hB c 49)
  obtain ⟨u, hu⟩ : ∃ u : Cu, u = ⟨B, c, zs⟩ := ⟨_, rfl⟩
  rw [← hu] at HC0
  clear hu hB
  have AM := Lib.hid (fun k n c A zs w' h hk hz hn hn2 hA hf => among_any (w.heap.size + 1) k n c u A zs w' h hk hz hn hn2 hA hf)
  have AP := Lib.hid (fun k id day w' h hk => approval28_any (w.heap.size + 1) k u id day w' h hk)
  have HC1 : Hid (CurB ((w.alloc (.cells #[.int .i64 0, .string ⟨#[]⟩, .int .i64 0, .slice none 0 0, .slice none 0 0, .int .i64 0] 34)).alloc (.cells #[.slice B zs.length c, .int .i64 0, .int .u64 0] 49)) (w.heap.size + 1) u 0) := Lib.hid (by have h := HC0.out; simpa using h)
  have KR : Hid (Blk ((w.alloc (.cells #[.int .i64 0, .string ⟨#[]⟩, .int .i64 0, .slice none 0 0, .slice none 0 0, .int .i64 0] 34)).alloc (.cells #[.slice B zs.length c, .int .i64 0, .int .u64 0] 49)) w.heap.size [.int .i64 0, .string ⟨#[]⟩, .int .i64 0, .slice none 0 0, .slice none 0 0, .int .i64 0]) := Lib.hid ((Blk.new w _ _).alloc _)
  have HBW : Hid (w.grownBy ((w.alloc (.cells #[.int .i64 0, .string ⟨#[]⟩, .int .i64 0, .slice none 0 0, .slice none 0 0, .int .i64 0] 34)).alloc (.cells #[.slice B zs.length c, .int .i64 0, .int .u64 0] 49)) (some (w.heap.size + 1))) := Lib.hid (grown_alloc (World.grownBy_alloc w _ _) _)
  clear HC0
  go_enter Tryd.func20, Tryd.ntmps20
  go_wp2_with fail
  refine (AM.out 0 3 _ (some ⟨w.heap.size + 1 + 1, 0, none⟩) [1, 42, 99] _ (HC1.out.alloc _) (by omega) rfl (by decide) (by decide) (rd_at (by simp) (rd_ints [1, 42, 99] 3)) (fun g o q e => by injection e with e; injection e with e; omega)).mono ?_
  rintro e w1 ⟨v1, k1, rfl, ⟨z1, -, rfl⟩, hk1, hc, hg⟩
  have HX1 := Lib.hid hc
  have HG1 := Lib.hid (grown_trans HBW.out (grown_trans (World.grownBy_alloc _ _ _) hg))
  have KR1 := Lib.hid ((KR.out.alloc (.cells (cells1 [1, 42, 99]).toArray 3)).grown hg (by intro e; injection e with e; omega))
  have hl1 : w.heap.size + 1 < w1.heap.size := hc.lt
  clear hc hg HC1 HBW KR
  go_wp2_with fail
  refine (AM.out k1 3 _ (some ⟨w1.heap.size, 0, none⟩) [0, 42, 3900] _ (HX1.out.alloc _) (by omega) rfl (by decide) (by decide) (rd_ints (w := w1) [0, 42, 3900] 3) (fun g o q e => by injection e with e; injection e with e; omega)).mono ?_
  rintro e w2 ⟨v2, k2, rfl, ⟨z2, -, rfl⟩, hk2, hc, hg⟩
  have HX2 := Lib.hid hc
  have HG2 := Lib.hid (grown_trans HG1.out (grown_trans (World.grownBy_alloc _ _ _) hg))
  have KR2 := Lib.hid ((KR1.out.alloc (.cells (cells1 [0, 42, 3900]).toArray 3)).grown hg (by intro e; injection e with e; omega))
  clear hc hg HX1 HG1 KR1
  go_wp2_with fail
  refine (AP.out k2 z1 z2 _ HX2.out (by omega)).mono ?_
  rintro e w3 ⟨x, a, b, k3, rfl, sa, sb, hdx, hk3, hc, hg⟩
  have HG3 := Lib.hid (grown_trans HG2.out hg)
  have KR3 := Lib.hid (KR2.out.grown hg (by intro e; injection e with e; omega))
  have hl2 : w.heap.size < w2.heap.size := KR2.out.lt
  obtain ⟨Aa, ca, rfl, ha1, ha2, -⟩ := sa.rd
  obtain ⟨Ab, cb, rfl, hb1, hb2, -⟩ := sb.rd
  have HW : Hid (Only (fun q => q = w.heap.size) w3 _) := Lib.hid ((((((only_set w3 w.heap.size 0 (.int .i64 x.id)).trans (only_set _ w.heap.size 1 (.string x.client))).trans (only_set _ w.heap.size 2 (.int .i64 x.sent))).trans (only_set _ w.heap.size 3 (.slice Aa x.items.length ca))).trans (only_set _ w.heap.size 4 (.slice Ab x.kept.length cb))).trans (only_set _ w.heap.size 5 (.int .i64 x.back)))
  have RA := Lib.hid (sa _ (HW.out.mono (fun q e => by have e : q = w.heap.size := e; show q < w2.heap.size; omega)))
  have RB := Lib.hid (sb _ (HW.out.mono (fun q e => by have e : q = w.heap.size := e; show q < w2.heap.size; omega)))
  obtain ⟨A2, c2, e2, -, -, R2⟩ := RA.out
  obtain ⟨A3, c3, e3, -, -, R3⟩ := RB.out
  injection e2 with e21 e22 e23
  injection e3 with e31 e32 e33
  subst e21; subst e23; subst e31; subst e33
  have HR2 := Lib.hid R2
  have HR3 := Lib.hid R3
  clear R2 R3 RA RB
  have HGF := Lib.hid (grown_other (grown_other (grown_other (grown_other (grown_other (grown_other HG3.out (Nat.le_refl _) 0 (.int .i64 x.id)) (Nat.le_refl _) 1 (.string x.client)) (Nat.le_refl _) 2 (.int .i64 x.sent)) (Nat.le_refl _) 3 (.slice Aa x.items.length ca)) (Nat.le_refl _) 4 (.slice Ab x.kept.length cb)) (Nat.le_refl _) 5 (.int .i64 x.back))
  have y0 := KR3.out.cell 0 _ rfl
  have yf0 := KR3.out.fr 0 (by simp)
  have y1 := KR3.out.cell 1 _ rfl
  have yf1 := KR3.out.fr 1 (by simp)
  have y2 := KR3.out.cell 2 _ rfl
  have yf2 := KR3.out.fr 2 (by simp)
  have y3 := KR3.out.cell 3 _ rfl
  have yf3 := KR3.out.fr 3 (by simp)
  have y4 := KR3.out.cell 4 _ rfl
  have yf4 := KR3.out.fr 4 (by simp)
  have y5 := KR3.out.cell 5 _ rfl
  have yf5 := KR3.out.fr 5 (by simp)
  have hyl := KR3.out.lt
  clear hc hg sa sb HW HG2 HG3 KR2 HX2
  go_wp2
  exact bodyPost_ret (v := .agg #[.int .i64 x.id, .string x.client, .int .i64 x.sent, .slice Aa x.items.length ca, .slice Ab x.kept.length cb, .int .i64 x.back]) (by simp [results, Tryd.results20, go_sem, y0, y1, y2, y3, y4, y5]) rfl ⟨x, _, _, _, _, rfl, hdx, ⟨ha1, ha2⟩, ⟨hb1, hb2⟩, HR2.out, HR3.out, (Below.refl _ _).grown HGF.out (Nat.le_refl _) (fun k hk => by injection hk with hk; omega)⟩
end Go.Proofs.YtehohkdipfphmaaDoor
