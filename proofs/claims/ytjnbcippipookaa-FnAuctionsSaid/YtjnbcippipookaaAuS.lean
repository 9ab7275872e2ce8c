/- A step of an auction: the reference: a lot for another, a new lot in its place. -/
import Derived.Test.YtjnbcippipookaaAuI
import Derived.Deep.RegionHeld3
namespace Go.Proofs.Ytjnbcippipookaa
set_option linter.unusedVariables false
set_option linter.unusedSimpArgs false
open Go.RowKit

set_option maxRecDepth 20000 in
set_option maxHeartbeats 4000000 in
theorem l29With_any (A : Option Addr) (n c : Nat) (xs : List R5) (j : Nat) (x y : R5) (w : World) (hn : xs.length = n) (hA : Rd w A (cells5 xs)) (h20 : n ≤ 1048576) (hx : xs[j]? = some y) :
    Calls Try.prog 45 #[.slice A n c, .int .i64 j, .agg #[.int .i64 x.a, .int .i64 x.b, .int .i64 x.c, .int .i64 x.d, .int .i64 x.e]] w (RetOwn 36 5 n (cells5 (xs.set j x)) w) := by
  have hj : j < n := by have := (List.getElem?_eq_some_iff.1 hx).1; omega
  have HS := Lib.hid (setAll_cells5 (y := x) hx)
  have HL := Lib.hid (show (cells5 xs).length = n * 5 by rw [length_cells5, hn])
  have HSZ := Lib.hid size36
  have HE : Hid (((w.alloc (.cells #[.int .i64 x.a, .int .i64 x.b, .int .i64 x.c, .int .i64 x.d, .int .i64 x.e] 36)).alloc (.cells #[] 36)).ownsRow (w.heap.size + 1) 36 5 (.slice (some ⟨w.heap.size + 1, 0, none⟩) 0 0) 0 []) := Lib.hid (own_empty' (by simp) (by simp))
  have HB1 : Hid (Below (w.heap.size + 1) (w.alloc (.cells #[.int .i64 x.a, .int .i64 x.b, .int .i64 x.c, .int .i64 x.d, .int .i64 x.e] 36)) ((w.alloc (.cells #[.int .i64 x.a, .int .i64 x.b, .int .i64 x.c, .int .i64 x.d, .int .i64 x.e] 36)).alloc (.cells #[] 36))) := Lib.hid ((Below.refl _ _).alloc (by simp) _)
  have HR := Lib.hid ((hA.alloc (.cells #[.int .i64 x.a, .int .i64 x.b, .int .i64 x.c, .int .i64 x.d, .int .i64 x.e] 36)).alloc (.cells #[] 36))
  clear hx hn hA
  go_enter Try.func45, Try.ntmps45
  go_wp2_with (at_builtin; go_must (refine wpList_app _ rfl (.tmp 8) (.tmp 9) 24 rfl (w.heap.size + 1) 36 _ 5 40 Try.underlying24 info36 rfl (by omega) _ _ _ rfl HE.out _ n c (cells5 xs) rfl HL.out HR.out (oneCell_cells5 xs) (by unfold maxLen; omega) (by omega) (by simp) ?_); intro v2 w2 o2 g2 d2; refine Hid.out ?_)
  rw [Nat.zero_add, List.nil_append] at o2
  have HB2 := Lib.hid (HB1.out.trans (below_app HE.out g2 (by simp) (Nat.le_refl _)))
  obtain ⟨gg, cap2, rfl, hg2, hg2'⟩ := own_some o2 (by omega)
  have HO2 := Lib.hid o2
  clear o2 g2 d2
  have y0 := box_at HB2.out 0 _ rfl
  have y1 := box_at HB2.out 1 _ rfl
  have y2 := box_at HB2.out 2 _ rfl
  have y3 := box_at HB2.out 3 _ rfl
  have y4 := box_at HB2.out 4 _ rfl
  have hy := box_lt HB2.out
  have HT := Lib.hid (own_there HO2.out (j * 5) 5 (by omega))
  refine Lib.hid ?_
  go_wp2_with (refine wpList_store_mid (op := ⟨none, .store 36 (.tmp 14) (.tmp 13), _, _, _, _⟩) rfl _ _ _ rfl gg (j * 5) #[.int .i64 x.a, .int .i64 x.b, .int .i64 x.c, .int .i64 x.d, .int .i64 x.e] rfl rfl HT.out HSZ.out (one5 _ _ _ _ _) ?_)
  go_ret
  obtain ⟨o3, g3⟩ := own_setCells x.cells HO2.out (j * 5)
  rw [HS.out] at o3
  exact ⟨_, rfl, own_mono o3 (Nat.le_succ _), box_below (HB2.out.grown g3 (by omega) (fun q hq => by injection hq with hq; omega))⟩


end Go.Proofs.Ytjnbcippipookaa
