/- What the cursor draws of treaties. -/
import Derived.Test.YtnaehlglpaadhaaDoorCur
import Derived.Test.YtnaehlglpaadhaaDoorTreP
namespace Go.Proofs.YtnaehlglpaadhaaDoor
set_option linter.unusedVariables false
set_option linter.unusedSimpArgs false
open Go.RowKit

def AggV (v : Value) : Prop := ∃ x : R5, v = .agg #[.int .i64 x.a, .int .i64 x.b, .int .i64 x.c, .int .i64 x.d, .int .i64 x.e]
def IntV (v : Value) : Prop := ∃ z : Int, v = .int .i64 z

set_option maxRecDepth 20000 in
set_option maxHeartbeats 2000000 in
theorem treatyDay_any (p k : Nat) (u : Cu) (w : World) (h : CurB w p u k) (hk : k ≤ 900000) :
    Calls Tryd.prog 29 #[.pointer (some ⟨p, 0, none⟩)] w (RetC p u k 2 IntV w) := by
  have AM := Lib.hid (fun k n c A zs w h hk hz hn hn2 hA hf => among_any p k n c u A zs w h hk hz hn hn2 hA hf)
  have HC := Lib.hid h
  clear h
  go_enter Tryd.func29, Tryd.ntmps29
  go_wp2_with fail
  refine (AM.out k 10 _ (some ⟨w.heap.size, 0, none⟩) [0, 3, 5, 9, 10, 20, 25, 4000, 4001, -1] _ ((HC.out).alloc _) (by omega) rfl (by decide) (by decide) (rd_ints (w := w) [0, 3, 5, 9, 10, 20, 25, 4000, 4001, -1] 3) (fun g o q e => by have := HC.out.lt; injection e with e; injection e with e; omega)).mono ?_
  rintro e w1 ⟨vw1, k1, rfl, ⟨zw1, -, rfl⟩, hk1, hc, hg⟩
  go_wp2
  go_ret
  exact ⟨_, k1, rfl, ⟨_, rfl⟩, hk1, hc, grown_trans (World.grownBy_alloc w _ _) hg⟩

set_option maxRecDepth 20000 in
set_option maxHeartbeats 2000000 in
theorem post_any (p k : Nat) (u : Cu) (w : World) (h : CurB w p u k) (hk : k ≤ 900000) :
    Calls Tryd.prog 28 #[.pointer (some ⟨p, 0, none⟩)] w (RetC p u k 2 IntV w) := by
  have AM := Lib.hid (fun k n c A zs w h hk hz hn hn2 hA hf => among_any p k n c u A zs w h hk hz hn hn2 hA hf)
  have HC := Lib.hid h
  clear h
  go_enter Tryd.func28, Tryd.ntmps28
  go_wp2_with fail
  refine (AM.out k 9 _ (some ⟨w.heap.size, 0, none⟩) [0, 0, 1, 2, 3, 4, 8, 9, -1] _ ((HC.out).alloc _) (by omega) rfl (by decide) (by decide) (rd_ints (w := w) [0, 0, 1, 2, 3, 4, 8, 9, -1] 3) (fun g o q e => by have := HC.out.lt; injection e with e; injection e with e; omega)).mono ?_
  rintro e w1 ⟨vw1, k1, rfl, ⟨zw1, -, rfl⟩, hk1, hc, hg⟩
  go_wp2
  go_ret
  exact ⟨_, k1, rfl, ⟨_, rfl⟩, hk1, hc, grown_trans (World.grownBy_alloc w _ _) hg⟩

set_option maxRecDepth 20000 in
set_option maxHeartbeats 4000000 in
theorem treaty_any (p k : Nat) (u : Cu) (w : World) (h : CurB w p u k) (hk : k ≤ 800000) :
    Calls Tryd.prog 49 #[.pointer (some ⟨p, 0, none⟩)] w (RetC p u k 14 AggV w) := by
  have AM := Lib.hid (fun k n c A zs w h hk hz hn hn2 hA hf => among_any p k n c u A zs w h hk hz hn hn2 hA hf)
  have PK := Lib.hid (fun k m w h hk hm hm2 => pick_any p k m u w h hk hm hm2)
  have HC := Lib.hid h
  have hp := h.lt
  clear h
  go_enter Tryd.func49, Tryd.ntmps49
  go_wp2_with fail
  have KR : Blk (w.alloc (.cells #[.int .i64 0, .int .i64 0, .int .i64 0, .int .i64 0, .int .i64 0] 44)) w.heap.size [.int .i64 0, .int .i64 0, .int .i64 0, .int .i64 0, .int .i64 0] := Blk.new w _ _
  refine (PK.out k 4 _ (HC.out.alloc _) (by omega) (by decide) (by decide)).mono ?_
  rintro e w1 ⟨vw1, k1, rfl, ⟨rw1, rfl, aw1, bw1⟩, hk1, hc, hg⟩
  have KR1 := KR.grown hg (by simp; omega)
  clear KR
  have HG1 := Lib.hid (grown_trans (World.grownBy_alloc w _ _) hg)
  clear HC
  have HC := Lib.hid hc
  clear hg hc
  go_wp2_with fail
  refine (AM.out k1 6 _ (some ⟨w1.heap.size, 0, none⟩) [0, 0, 5, 10, 20, 3990] _ ((HC.out).alloc _) (by omega) rfl (by decide) (by decide) (rd_ints (w := w1) [0, 0, 5, 10, 20, 3990] 3) (fun g o q e => by have := HC.out.lt; injection e with e; injection e with e; omega)).mono ?_
  rintro e w2 ⟨vw2, k2, rfl, ⟨zw2, -, rfl⟩, hk2, hc, hg⟩
  have hr1 := KR1.lt
  have hg1' := grown_trans (World.grownBy_alloc w1 _ _) hg
  have KR2 := KR1.grown hg1' (by simp; omega)
  clear KR1
  have HG2 := Lib.hid (grown_trans HG1.out hg1')
  clear HC
  have HC := Lib.hid hc
  clear hg hc hg1' HG1
  go_wp2_with fail
  refine (PK.out k2 3 _ HC.out (by omega) (by decide) (by decide)).mono ?_
  rintro e w3 ⟨vw3, k3, rfl, ⟨rw3, rfl, aw3, bw3⟩, hk3, hc, hg⟩
  have KR3 := KR2.grown hg (by simp; omega)
  clear KR2
  have HG3 := Lib.hid (grown_trans HG2.out hg)
  clear HC
  have HC := Lib.hid hc
  clear hg hc HG2
  go_wp2_with fail
  refine (AM.out k3 5 _ (some ⟨w3.heap.size, 0, none⟩) [0, 4, 9, 10, 30] _ ((HC.out).alloc _) (by omega) rfl (by decide) (by decide) (rd_ints (w := w3) [0, 4, 9, 10, 30] 3) (fun g o q e => by have := HC.out.lt; injection e with e; injection e with e; omega)).mono ?_
  rintro e w4 ⟨vw4, k4, rfl, ⟨zw4, -, rfl⟩, hk4, hc, hg⟩
  have hg1' := grown_trans (World.grownBy_alloc w3 _ _) hg
  have KR4 := KR3.grown hg1' (by simp; omega)
  clear KR3
  have HG4 := Lib.hid (grown_trans HG3.out hg1')
  clear HC
  have HC := Lib.hid hc
  clear hg hc hg1' HG3
  go_wp2_with fail
  refine (AM.out k4 5 _ (some ⟨w4.heap.size, 0, none⟩) [1, 10, 33, 50, 99] _ ((HC.out).alloc _) (by omega) rfl (by decide) (by decide) (rd_ints (w := w4) [1, 10, 33, 50, 99] 3) (fun g o q e => by have := HC.out.lt; injection e with e; injection e with e; omega)).mono ?_
  rintro e w5 ⟨vw5, k5, rfl, ⟨zw5, -, rfl⟩, hk5, hc, hg⟩
  have hg1' := grown_trans (World.grownBy_alloc w4 _ _) hg
  have KR5 := KR4.grown hg1' (by simp; omega)
  clear KR4
  have HG5 := Lib.hid (grown_trans HG4.out hg1')
  clear HC
  have HC := Lib.hid hc
  clear hg hc hg1' HG4
  go_wp2_with fail
  have KX : Blk (w5.alloc (.cells #[.int .i64 rw1, .int .i64 (rw1 + 1 + rw3), .int .i64 zw2, .int .i64 (wrap64 (zw2 + zw4)), .int .i64 zw5] 44)) w5.heap.size [.int .i64 rw1, .int .i64 (rw1 + 1 + rw3), .int .i64 zw2, .int .i64 (wrap64 (zw2 + zw4)), .int .i64 zw5] := Blk.new w5 _ _
  refine (PK.out k5 64 _ (HC.out.alloc _) (by omega) (by decide) (by decide)).mono ?_
  rintro e w6 ⟨vw6, k6, rfl, ⟨rw6, rfl, aw6, bw6⟩, hk6, hc, hg⟩
  have hr5 := KR5.lt
  have hp5 := HC.out.lt
  have hg1' := grown_trans (World.grownBy_alloc w5 _ _) hg
  have KR6 := KR5.grown hg1' (by simp; omega)
  have KX6 := KX.grown hg (by simp; omega)
  clear KR5 KX
  have HG6 := Lib.hid (grown_trans HG5.out hg1')
  clear HC
  have HC := Lib.hid hc
  clear hg hc hg1' HG5
  have hxr : w.heap.size < w5.heap.size := hr5
  have hxr2 : ¬ w5.heap.size = w.heap.size := by omega
  have hxr3 : ¬ w.heap.size = w5.heap.size := by omega
  have hl6 := KX6.lt
  by_cases h0 : rw6 = 0
  · subst h0
    have x0 := KX6.cell 0 _ rfl
    go_wp2_with fail
    refine (AM.out k6 3 _ (some ⟨w6.heap.size, 0, none⟩) [rw1, 8, 9] _ ((HC.out).alloc _) (by omega) rfl (by decide) (by decide) (rd_ints (w := w6) [rw1, 8, 9] 3) (fun g o q e => by have := HC.out.lt; injection e with e; injection e with e; omega)).mono ?_
    rintro e w7 ⟨vw7, k7, rfl, ⟨zw7, -, rfl⟩, hk7, hc, hg⟩
    have hg1' := grown_trans (World.grownBy_alloc w6 _ _) hg
    have hr6 := KR6.lt
    have KR7 := KR6.grown hg1' (by simp; omega)
    have KX7 := KX6.grown hg1' (by simp; omega)
    have HG7 := Lib.hid (grown_trans HG6.out hg1')
    clear HC
    have HC := Lib.hid hc
    clear x0 hg hc hg1' HG6 KR6 KX6
    have x0 := KX7.cell 0 _ rfl
    have rr0 := KR7.cell 0 _ rfl
    have rf0 := KR7.fr 0 (by simp)
    have x1 := KX7.cell 1 _ rfl
    have rr1 := KR7.cell 1 _ rfl
    have rf1 := KR7.fr 1 (by simp)
    have x2 := KX7.cell 2 _ rfl
    have rr2 := KR7.cell 2 _ rfl
    have rf2 := KR7.fr 2 (by simp)
    have x3 := KX7.cell 3 _ rfl
    have rr3 := KR7.cell 3 _ rfl
    have rf3 := KR7.fr 3 (by simp)
    have x4 := KX7.cell 4 _ rfl
    have rr4 := KR7.cell 4 _ rfl
    have rf4 := KR7.fr 4 (by simp)
    have xf1 := KX7.fr 1 (by simp)
    have HKR := Lib.hid KR7
    have HKX := Lib.hid KX7
    go_wp2
    have HL := Lib.hid HC.out.lt
    exact bodyPost_ret (v := .agg #[.int .i64 rw1, .int .i64 zw7, .int .i64 zw2, .int .i64 (wrap64 (zw2 + zw4)), .int .i64 zw5]) (by simp [results, Tryd.results49, go_sem, rr0, rr1, rr2, rr3, rr4]) rfl ⟨_, k7, rfl, ⟨⟨_, _, _, _, _⟩, rfl⟩, by omega, ((((((HC.out.other (by omega) _).other (by omega) _).other (by omega) _).other (by omega) _).other (by omega) _).other (by omega) _), (grown_other (grown_other (grown_other (grown_other (grown_other (grown_other HG7.out (by omega) _ _) (by omega) _ _) (by omega) _ _) (by omega) _ _) (by omega) _ _) (by omega) _ _)⟩
  · by_cases h1 : rw6 = 1
    · subst h1
      have x0 := KX6.cell 0 _ rfl
      go_wp2_with fail
      refine (AM.out k6 2 _ (some ⟨w6.heap.size, 0, none⟩) [0, 100] _ ((HC.out).alloc _) (by omega) rfl (by decide) (by decide) (rd_ints (w := w6) [0, 100] 3) (fun g o q e => by have := HC.out.lt; injection e with e; injection e with e; omega)).mono ?_
      rintro e w7 ⟨vw7, k7, rfl, ⟨zw7, -, rfl⟩, hk7, hc, hg⟩
      have hg1' := grown_trans (World.grownBy_alloc w6 _ _) hg
      have hr6 := KR6.lt
      have KR7 := KR6.grown hg1' (by simp; omega)
      have KX7 := KX6.grown hg1' (by simp; omega)
      have HG7 := Lib.hid (grown_trans HG6.out hg1')
      clear HC
      have HC := Lib.hid hc
      clear x0 hg hc hg1' HG6 KR6 KX6
      have x0 := KX7.cell 0 _ rfl
      have rr0 := KR7.cell 0 _ rfl
      have rf0 := KR7.fr 0 (by simp)
      have x1 := KX7.cell 1 _ rfl
      have rr1 := KR7.cell 1 _ rfl
      have rf1 := KR7.fr 1 (by simp)
      have x2 := KX7.cell 2 _ rfl
      have rr2 := KR7.cell 2 _ rfl
      have rf2 := KR7.fr 2 (by simp)
      have x3 := KX7.cell 3 _ rfl
      have rr3 := KR7.cell 3 _ rfl
      have rf3 := KR7.fr 3 (by simp)
      have x4 := KX7.cell 4 _ rfl
      have rr4 := KR7.cell 4 _ rfl
      have rf4 := KR7.fr 4 (by simp)
      have xf4 := KX7.fr 4 (by simp)
      have HKR := Lib.hid KR7
      have HKX := Lib.hid KX7
      go_wp2
      have HL := Lib.hid HC.out.lt
      exact bodyPost_ret (v := .agg #[.int .i64 rw1, .int .i64 (rw1 + 1 + rw3), .int .i64 zw2, .int .i64 (wrap64 (zw2 + zw4)), .int .i64 zw7]) (by simp [results, Tryd.results49, go_sem, rr0, rr1, rr2, rr3, rr4]) rfl ⟨_, k7, rfl, ⟨⟨_, _, _, _, _⟩, rfl⟩, by omega, ((((((HC.out.other (by omega) _).other (by omega) _).other (by omega) _).other (by omega) _).other (by omega) _).other (by omega) _), (grown_other (grown_other (grown_other (grown_other (grown_other (grown_other HG7.out (by omega) _ _) (by omega) _ _) (by omega) _ _) (by omega) _ _) (by omega) _ _) (by omega) _ _)⟩
    · have h0d : (rw6 == 0) = false := by simp [h0]
      have h1d : (rw6 == 1) = false := by simp [h1]
      have x0 := KX6.cell 0 _ rfl
      have rr0 := KR6.cell 0 _ rfl
      have rf0 := KR6.fr 0 (by simp)
      have x1 := KX6.cell 1 _ rfl
      have rr1 := KR6.cell 1 _ rfl
      have rf1 := KR6.fr 1 (by simp)
      have x2 := KX6.cell 2 _ rfl
      have rr2 := KR6.cell 2 _ rfl
      have rf2 := KR6.fr 2 (by simp)
      have x3 := KX6.cell 3 _ rfl
      have rr3 := KR6.cell 3 _ rfl
      have rf3 := KR6.fr 3 (by simp)
      have x4 := KX6.cell 4 _ rfl
      have rr4 := KR6.cell 4 _ rfl
      have rf4 := KR6.fr 4 (by simp)
      have HKR := Lib.hid KR6
      have HKX := Lib.hid KX6
      go_wp2
      have HL := Lib.hid HC.out.lt
      exact bodyPost_ret (v := .agg #[.int .i64 rw1, .int .i64 (rw1 + 1 + rw3), .int .i64 zw2, .int .i64 (wrap64 (zw2 + zw4)), .int .i64 zw5]) (by simp [results, Tryd.results49, go_sem, rr0, rr1, rr2, rr3, rr4]) rfl ⟨_, k6, rfl, ⟨⟨_, _, _, _, _⟩, rfl⟩, by omega, (((((HC.out.other (by omega) _).other (by omega) _).other (by omega) _).other (by omega) _).other (by omega) _), (grown_other (grown_other (grown_other (grown_other (grown_other HG6.out (by omega) _ _) (by omega) _ _) (by omega) _ _) (by omega) _ _) (by omega) _ _)⟩
end Go.Proofs.YtnaehlglpaadhaaDoor
