/- What the cursor draws: a mail. -/
import Derived.Test.YtobloedpmjkgpaaCvD1
namespace Go.Proofs.Ytobloedpmjkgpaa
set_option linter.unusedVariables false
set_option linter.unusedSimpArgs false
open Go.RowKit

set_option maxRecDepth 20000 in
set_option maxHeartbeats 8000000 in
theorem mail_any (p k : Nat) (u : Cu) (w : World) (h : CurB w p u k) (hk : k ≤ 800000) :
    Calls Try.prog 40 #[.pointer (some ⟨p, 0, none⟩)] w (RetC p u k 14 (Agg4) w) := by
  have AM := Lib.hid (fun k n c A zs w h hk hz hn hn2 hA hf => among_any p k n c u A zs w h hk hz hn hn2 hA hf)
  have PK := Lib.hid (fun k m w h hk hm hm2 => pick_any p k m u w h hk hm hm2)
  have ON := Lib.hid (fun k m w h hk hm hm2 => one_any p k m u w h hk hm hm2)
  have HC := Lib.hid h
  have hp := h.lt
  clear h
  go_enter Try.func40, Try.ntmps40
  go_wp2_with fail
  have KR : Blk (w.alloc (.cells #[.int .i64 0, .int .i64 0, .int .i64 0, .int .i64 0] 58)) w.heap.size [.int .i64 0, .int .i64 0, .int .i64 0, .int .i64 0] := Blk.new w _ _
  obtain ⟨w0, hw0⟩ : ∃ w0, w0 = (w.alloc (.cells #[.int .i64 0, .int .i64 0, .int .i64 0, .int .i64 0] 58)) := ⟨_, rfl⟩
  have hs0 : w0.heap.size = w.heap.size + 1 := by rw [hw0]; simp
  have HC0 := Lib.hid (HC.out.alloc (.cells #[.int .i64 0, .int .i64 0, .int .i64 0, .int .i64 0] 58))
  have HG0 := Lib.hid (World.grownBy_alloc w (.cells #[.int .i64 0, .int .i64 0, .int .i64 0, .int .i64 0] 58) (some p))
  rw [← hw0] at KR HC0 HG0
  try rw [← hw0]
  try rw [← hs0]
  clear hw0 HC
  have HC := HC0
  clear HC0
  have hpx : p < w0.heap.size := HC.out.lt
  have hrx := KR.lt
  refine (AM.out k 8 _ (some ⟨w0.heap.size, 0, none⟩) [0, 5, 10, 10, 20, 30, 45, 60] _ ((HC.out).alloc _) (by omega) rfl (by decide) (by decide) (rd_ints (w := w0) [0, 5, 10, 10, 20, 30, 45, 60] 3) (fun g o q e => by have := HC.out.lt; injection e with e; injection e with e; simp at *; omega)).mono ?_
  rintro e w1 ⟨v1, k1, rfl, ⟨z1, m1, rfl⟩, hk1, hc, hg⟩
  have hg' := grown_trans (World.grownBy_alloc w0 _ _) hg
  have KR1 := KR.grown hg' (by simp; omega)
  have HG1 := Lib.hid (grown_trans HG0.out hg')
  clear HC
  have HC := Lib.hid hc
  clear hg hc hg' HG0 KR 
  clear hpx hrx
  have hl1 : 0 ≤ z1 ∧ z1 ≤ 100 := by simp at m1; omega
  clear m1
  go_wp2_with fail
  have hpx : p < w1.heap.size := HC.out.lt
  refine (PK.out k1 4 _ HC.out (by omega) (by decide) (by decide)).mono ?_
  rintro e w2 ⟨v2, k2, rfl, ⟨r2, rfl, a2, b2⟩, hk2, hc, hg⟩
  have hg' := hg
  have KR2 := KR1.grown hg' (by simp; omega)
  have HG2 := Lib.hid (grown_trans HG1.out hg')
  clear HC
  have HC := Lib.hid hc
  clear hg hc hg' HG1 KR1 
  clear hpx
  go_wp2_with fail
  have hpx : p < w2.heap.size := HC.out.lt
  refine (PK.out k2 4 _ HC.out (by omega) (by decide) (by decide)).mono ?_
  rintro e w3 ⟨v3, k3, rfl, ⟨r3, rfl, a3, b3⟩, hk3, hc, hg⟩
  have hg' := hg
  have KR3 := KR2.grown hg' (by simp; omega)
  have HG3 := Lib.hid (grown_trans HG2.out hg')
  clear HC
  have HC := Lib.hid hc
  clear hg hc hg' HG2 KR2 
  clear hpx
  go_wp2_with fail
  have hpx : p < w3.heap.size := HC.out.lt
  have hrx := KR3.lt
  refine (AM.out k3 5 _ (some ⟨w3.heap.size, 0, none⟩) [1, 5, 10, 10, 25] _ ((HC.out).alloc _) (by omega) rfl (by decide) (by decide) (rd_ints (w := w3) [1, 5, 10, 10, 25] 3) (fun g o q e => by have := HC.out.lt; injection e with e; injection e with e; simp at *; omega)).mono ?_
  rintro e w4 ⟨v4, k4, rfl, ⟨z4, m4, rfl⟩, hk4, hc, hg⟩
  have hg' := grown_trans (World.grownBy_alloc w3 _ _) hg
  have KR4 := KR3.grown hg' (by simp; omega)
  have HG4 := Lib.hid (grown_trans HG3.out hg')
  clear HC
  have HC := Lib.hid hc
  clear hg hc hg' HG3 KR3 
  clear hpx hrx
  have hl2 : 0 ≤ z4 ∧ z4 ≤ 100 := by simp at m4; omega
  clear m4
  have hw1 : IntKind.i64.wrap (z1 + z4) = z1 + z4 := IntWalk.i64_in _ (by omega)
  go_wp2_with fail
  have KX5 : Blk (w4.alloc (.cells #[.int .i64 z1, .int .i64 r2, .int .i64 r3, .int .i64 (z1 + z4)] 58)) w4.heap.size [.int .i64 z1, .int .i64 r2, .int .i64 r3, .int .i64 (z1 + z4)] := Blk.new w4 _ _
  obtain ⟨w5, hw5⟩ : ∃ wx, wx = (w4.alloc (.cells #[.int .i64 z1, .int .i64 r2, .int .i64 r3, .int .i64 (z1 + z4)] 58)) := ⟨_, rfl⟩
  have hsx : w5.heap.size = w4.heap.size + 1 := by rw [hw5]; simp
  have hszx : w.heap.size ≤ w4.heap.size := HG4.out.size
  have hslx : w.heap.size < w4.heap.size := KR4.lt
  have hplx : p < w4.heap.size := HC.out.lt
  have HCX := Lib.hid (HC.out.alloc (.cells #[.int .i64 z1, .int .i64 r2, .int .i64 r3, .int .i64 (z1 + z4)] 58))
  have HG5 := Lib.hid (grown_alloc HG4.out (.cells #[.int .i64 z1, .int .i64 r2, .int .i64 r3, .int .i64 (z1 + z4)] 58))
  have KR5 := KR4.alloc (.cells #[.int .i64 z1, .int .i64 r2, .int .i64 r3, .int .i64 (z1 + z4)] 58)
  rw [← hw5] at KX5 HCX HG5 KR5
  try rw [← hw5]
  try rw [← hsx]
  clear hw5 HC HG4 KR4
  have HC := HCX
  clear HCX
  have hxr2 : ¬ w4.heap.size = w.heap.size := by omega
  have hxr3 : ¬ w.heap.size = w4.heap.size := by omega
  go_wp2_with fail
  have hpx : p < w5.heap.size := HC.out.lt
  refine (PK.out k4 48 _ HC.out (by omega) (by decide) (by decide)).mono ?_
  rintro e w6 ⟨v6, k6, rfl, ⟨r6, rfl, a6, b6⟩, hk6, hc, hg⟩
  have hg' := hg
  have KR6 := KR5.grown hg' (by simp; omega)
  have KX6 := KX5.grown hg' (by simp; omega)
  have HG6 := Lib.hid (grown_trans HG5.out hg')
  clear HC
  have HC := Lib.hid hc
  clear hg hc hg' HG5 KR5 KX5
  clear hpx
  by_cases h0 : r6 = 0
  · subst h0
    go_wp2_with fail
    have hpx : p < w6.heap.size := HC.out.lt
    have hrx := KR6.lt
    have hxx := KX6.lt
    refine (AM.out k6 3 _ (some ⟨w6.heap.size, 0, none⟩) [-1, 9, 10] _ ((HC.out).alloc _) (by omega) rfl (by decide) (by decide) (rd_ints (w := w6) [-1, 9, 10] 3) (fun g o q e => by have := HC.out.lt; injection e with e; injection e with e; simp at *; omega)).mono ?_
    rintro e w7 ⟨v7, k7, rfl, ⟨z7, m7, rfl⟩, hk7, hc, hg⟩
    have hg' := grown_trans (World.grownBy_alloc w6 _ _) hg
    have KR7 := KR6.grown hg' (by simp; omega)
    have KX7 := KX6.grown hg' (by simp; omega)
    have HG7 := Lib.hid (grown_trans HG6.out hg')
    clear HC
    have HC := Lib.hid hc
    clear hg hc hg' HG6 KR6 KX6
    clear hpx hrx hxx
    have hz9 : -100 ≤ z7 ∧ z7 ≤ 100 := by simp at m7; omega
    clear m7
    have x0 := KX7.cell 0 _ rfl
    have rr0 := KR7.cell 0 _ rfl
    have rf0 := KR7.fr 0 (by simp)
    have x1 := KX7.cell 1 _ rfl
    have rr1 := KR7.cell 1 _ rfl
    have rf1 := KR7.fr 1 (by simp)
    have x2 := KX7.cell 2 _ rfl
    have rr2 := KR7.cell 2 _ rfl
    have rf2 := KR7.fr 2 (by simp)
    have x3 := KX7.cell 3 _ rfl
    have rr3 := KR7.cell 3 _ rfl
    have rf3 := KR7.fr 3 (by simp)
    have xf2 := KX7.fr 2 (by simp)
    have HKR := Lib.hid KR7
    have HKX := Lib.hid KX7
    clear KR7 KX7
    go_wp2
    have HL := Lib.hid HC.out.lt
    exact bodyPost_ret (v := .agg #[.int .i64 z1, .int .i64 r2, .int .i64 z7, .int .i64 (z1 + z4)]) (by simp [results, Try.results40, go_sem, rr0, rr1, rr2, rr3]) rfl ⟨_, k7, rfl, ⟨⟨z1, r2, z7, (z1 + z4)⟩, rfl, by unfold sm4; simp only; omega⟩, by omega, (((((HC.out.other (by omega) _).other (by omega) _).other (by omega) _).other (by omega) _).other (by omega) _), (grown_other (grown_other (grown_other (grown_other (grown_other HG7.out (by omega) _ _) (by omega) _ _) (by omega) _ _) (by omega) _ _) (by omega) _ _)⟩
  · by_cases h1 : r6 = 1
    · subst h1
      have x0 := KX6.cell 0 _ rfl
      go_wp2_with fail
      have hpx : p < w6.heap.size := HC.out.lt
      have hrx := KR6.lt
      have hxx := KX6.lt
      refine (AM.out k6 3 _ (some ⟨w6.heap.size, 0, none⟩) [z1, 9999, 10000] _ ((HC.out).alloc _) (by omega) rfl (by decide) (by decide) (rd_ints (w := w6) [z1, 9999, 10000] 3) (fun g o q e => by have := HC.out.lt; injection e with e; injection e with e; simp at *; omega)).mono ?_
      rintro e w7 ⟨v7, k7, rfl, ⟨z7, m7, rfl⟩, hk7, hc, hg⟩
      have hg' := grown_trans (World.grownBy_alloc w6 _ _) hg
      have KR7 := KR6.grown hg' (by simp; omega)
      have KX7 := KX6.grown hg' (by simp; omega)
      have HG7 := Lib.hid (grown_trans HG6.out hg')
      clear HC
      have HC := Lib.hid hc
      clear hg hc hg' HG6 KR6 KX6
      clear hpx hrx hxx
      have hz9 : -100 ≤ z7 ∧ z7 ≤ 10000 := by simp at m7; omega
      clear x0 m7
      have x0 := KX7.cell 0 _ rfl
      have rr0 := KR7.cell 0 _ rfl
      have rf0 := KR7.fr 0 (by simp)
      have x1 := KX7.cell 1 _ rfl
      have rr1 := KR7.cell 1 _ rfl
      have rf1 := KR7.fr 1 (by simp)
      have x2 := KX7.cell 2 _ rfl
      have rr2 := KR7.cell 2 _ rfl
      have rf2 := KR7.fr 2 (by simp)
      have x3 := KX7.cell 3 _ rfl
      have rr3 := KR7.cell 3 _ rfl
      have rf3 := KR7.fr 3 (by simp)
      have xf3 := KX7.fr 3 (by simp)
      have HKR := Lib.hid KR7
      have HKX := Lib.hid KX7
      clear KR7 KX7
      go_wp2
      have HL := Lib.hid HC.out.lt
      exact bodyPost_ret (v := .agg #[.int .i64 z1, .int .i64 r2, .int .i64 r3, .int .i64 z7]) (by simp [results, Try.results40, go_sem, rr0, rr1, rr2, rr3]) rfl ⟨_, k7, rfl, ⟨⟨z1, r2, r3, z7⟩, rfl, by unfold sm4; simp only; omega⟩, by omega, (((((HC.out.other (by omega) _).other (by omega) _).other (by omega) _).other (by omega) _).other (by omega) _), (grown_other (grown_other (grown_other (grown_other (grown_other HG7.out (by omega) _ _) (by omega) _ _) (by omega) _ _) (by omega) _ _) (by omega) _ _)⟩
    · have d0 : (r6 == 0) = false := by simp [h0]
      have d1 : (r6 == 1) = false := by simp [h1]
      have x0 := KX6.cell 0 _ rfl
      have rr0 := KR6.cell 0 _ rfl
      have rf0 := KR6.fr 0 (by simp)
      have x1 := KX6.cell 1 _ rfl
      have rr1 := KR6.cell 1 _ rfl
      have rf1 := KR6.fr 1 (by simp)
      have x2 := KX6.cell 2 _ rfl
      have rr2 := KR6.cell 2 _ rfl
      have rf2 := KR6.fr 2 (by simp)
      have x3 := KX6.cell 3 _ rfl
      have rr3 := KR6.cell 3 _ rfl
      have rf3 := KR6.fr 3 (by simp)
      have HKR := Lib.hid KR6
      have HKX := Lib.hid KX6
      clear KR6 KX6
      go_wp2
      have HL := Lib.hid HC.out.lt
      exact bodyPost_ret (v := .agg #[.int .i64 z1, .int .i64 r2, .int .i64 r3, .int .i64 (z1 + z4)]) (by simp [results, Try.results40, go_sem, rr0, rr1, rr2, rr3]) rfl ⟨_, k6, rfl, ⟨⟨z1, r2, r3, (z1 + z4)⟩, rfl, by unfold sm4; simp only; omega⟩, by omega, ((((HC.out.other (by omega) _).other (by omega) _).other (by omega) _).other (by omega) _), (grown_other (grown_other (grown_other (grown_other HG6.out (by omega) _ _) (by omega) _ _) (by omega) _ _) (by omega) _ _)⟩
end Go.Proofs.Ytobloedpmjkgpaa
