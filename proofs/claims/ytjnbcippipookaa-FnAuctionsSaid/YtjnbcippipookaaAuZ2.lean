/- The step and the auction that the law draws. -/
import Derived.Test.YtjnbcippipookaaAuZ
namespace Go.Proofs.Ytjnbcippipookaa
set_option linter.unusedVariables false
set_option linter.unusedSimpArgs false
open Go.RowKit

def RetDS4 (W : World) : Ending → World → Prop := fun e w' => ∃ v xs a b c d, e = .returned (.tuple #[v, .agg #[.int .i64 a, .int .i64 b, .int .i64 c, .int .i64 d]]) ∧ Lst w' v xs ∧ xs.length ≤ 9 ∧ Below W.heap.size W w'
set_option maxRecDepth 20000 in
set_option maxHeartbeats 400000 in
theorem drawStepAuction_any (B : Option Addr) (n c : Nat) (zs : List Int) (w : World) (hn : zs.length = n) (hB : Bytes w B zs) :
    Calls Try.prog 5 #[.slice B n c] w (RetDS4 w) := by
  subst hn
  obtain ⟨w0, hw0⟩ : ∃ w0, w0 = w.alloc (.cells #[.int .i64 0, .int .i64 0, .int .i64 0, .int .i64 0] 26) := ⟨_, rfl⟩
  have hb0 : Below w.heap.size w w0 := by rw [hw0]; exact (Below.refl _ _).alloc (Nat.le_refl _) _
  have KR0 : Blk w0 w.heap.size [.int .i64 0, .int .i64 0, .int .i64 0, .int .i64 0] := by rw [hw0]; exact Blk.new w _ _
  have hs0 : w0.heap.size = w.heap.size + 1 := by rw [hw0]; simp
  have HC0 := Lib.hid (CurB.new (hB.below hb0) c 45)
  obtain ⟨u, hu⟩ : ∃ u : Cu, u = ⟨B, c, zs⟩ := ⟨_, rfl⟩
  rw [← hu] at HC0
  clear hu hB
  have AU := Lib.hid (fun k w_ h hk => auction_any (w.heap.size + 1) k u w_ h hk)
  have ST := Lib.hid (fun k A n c xs w_ hn hn2 hd hA hf h hk => auctionStep_any (w.heap.size + 1) k u A n c xs w_ hn hn2 hd hA hf h hk)
  have HC1 : Hid (CurB (w0.alloc (.cells #[.slice B zs.length c, .int .i64 0, .int .u64 0] 45)) (w.heap.size + 1) u 0) := Lib.hid (by rw [← hs0]; exact HC0.out)
  have HG1 : Hid (w0.grownBy (w0.alloc (.cells #[.slice B zs.length c, .int .i64 0, .int .u64 0] 45)) (some (w.heap.size + 1))) := Lib.hid (World.grownBy_alloc w0 _ _)
  have KR1 := KR0.alloc (.cells #[.slice B zs.length c, .int .i64 0, .int .u64 0] 45)
  clear HC0 KR0
  go_enter Try.func5, Try.ntmps5
  go_wp2_with fail
  rw [← hw0]
  refine (AU.out 0 _ HC1.out (by omega)).mono ?_
  rintro e w1 ⟨v1, xs, k1, rfl, o1, hx9, hdx, hk1, hc, hg⟩
  have hp1 : w.heap.size + 1 < (w0.alloc (.cells #[.slice B zs.length c, .int .i64 0, .int .u64 0] 45)).heap.size := by simp; omega
  obtain ⟨A, ca, rfl⟩ := own_form o1
  have HO1 := Lib.hid o1
  have HG2 := Lib.hid (grown_trans HG1.out hg)
  have KR2 := KR1.grown hg (by simp)
  have HD := Lib.hid hdx
  have HC := Lib.hid hc
  clear o1 hc hg HC1 HG1 KR1 hdx
  go_wp2_with fail
  refine (ST.out k1 A xs.length ca xs _ rfl (by omega) HD.out (Rd.of_own HO1.out) (own_far HO1.out hp1) HC.out (by omega)).mono ?_
  rintro e w2 ⟨v2, k2, rfl, ⟨q1, q2, q3, q4, rfl⟩, hk2, hc, hg⟩
  have HO2 := Lib.hid (own_grown HO1.out hg hp1)
  have HG3 := Lib.hid (grown_trans HG2.out hg)
  have KR3 := KR2.grown hg (by simp)
  clear HC HO1 HG2 KR2 hc hg
  have r0 := KR3.cell 0 _ rfl
  have f0 := KR3.fr 0 (by simp)
  have r1 := KR3.cell 1 _ rfl
  have f1 := KR3.fr 1 (by simp)
  have r2 := KR3.cell 2 _ rfl
  have f2 := KR3.fr 2 (by simp)
  have r3 := KR3.cell 3 _ rfl
  have f3 := KR3.fr 3 (by simp)
  go_wp2
  refine bodyPost_ret (v := .tuple #[.slice A xs.length ca, .agg #[.int .i64 q1, .int .i64 q2, .int .i64 q3, .int .i64 q4]]) (by simp [results, Try.results5, go_sem, r0, r1, r2, r3]) rfl ?_
  refine ⟨_, xs, q1, q2, q3, q4, rfl, ?_, hx9, ?_⟩
  · exact Lst.of (own_grown (own_grown (own_grown (own_grown HO2.out (grown_cell _ w.heap.size 0 _) (by omega)) (grown_cell _ w.heap.size 1 _) (by omega)) (grown_cell _ w.heap.size 2 _) (by omega)) (grown_cell _ w.heap.size 3 _) (by omega)) (by omega)
  · exact ((((hb0.grown HG3.out (by omega) (fun k hk => by injection hk with hk; omega)).setCell (Nat.le_refl _) _).setCell (Nat.le_refl _) _).setCell (Nat.le_refl _) _).setCell (Nat.le_refl _) _
end Go.Proofs.Ytjnbcippipookaa
