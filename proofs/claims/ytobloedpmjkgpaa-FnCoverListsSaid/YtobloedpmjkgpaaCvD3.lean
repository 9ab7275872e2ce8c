/- What the cursor draws: a cover. -/
import Derived.Test.YtobloedpmjkgpaaCvD1
namespace Go.Proofs.Ytobloedpmjkgpaa
set_option linter.unusedVariables false
set_option linter.unusedSimpArgs false
open Go.RowKit

set_option maxRecDepth 20000 in
set_option maxHeartbeats 8000000 in
theorem cover_any (p k : Nat) (u : Cu) (id : Int) (w : World) (h : CurB w p u k) (hk : k ≤ 800000) :
    Calls Try.prog 43 #[.pointer (some ⟨p, 0, none⟩), .int .i64 id] w (RetC p u k 26 (Agg9) w) := by
  have AM := Lib.hid (fun k n c A zs w h hk hz hn hn2 hA hf => among_any p k n c u A zs w h hk hz hn hn2 hA hf)
  have PK := Lib.hid (fun k m w h hk hm hm2 => pick_any p k m u w h hk hm hm2)
  have ON := Lib.hid (fun k m w h hk hm hm2 => one_any p k m u w h hk hm hm2)
  have HC := Lib.hid h
  have hp := h.lt
  clear h
  go_enter Try.func43, Try.ntmps43
  go_wp2_with fail
  have KR : Blk (w.alloc (.cells #[.int .i64 0, .int .i64 0, .int .i64 0, .int .i64 0, .int .i64 0, .int .i64 0, .int .i64 0, .int .i64 0, .int .i64 0] 42)) w.heap.size [.int .i64 0, .int .i64 0, .int .i64 0, .int .i64 0, .int .i64 0, .int .i64 0, .int .i64 0, .int .i64 0, .int .i64 0] := Blk.new w _ _
  obtain ⟨w0, hw0⟩ : ∃ w0, w0 = (w.alloc (.cells #[.int .i64 0, .int .i64 0, .int .i64 0, .int .i64 0, .int .i64 0, .int .i64 0, .int .i64 0, .int .i64 0, .int .i64 0] 42)) := ⟨_, rfl⟩
  have hs0 : w0.heap.size = w.heap.size + 1 := by rw [hw0]; simp
  have HC0 := Lib.hid (HC.out.alloc (.cells #[.int .i64 0, .int .i64 0, .int .i64 0, .int .i64 0, .int .i64 0, .int .i64 0, .int .i64 0, .int .i64 0, .int .i64 0] 42))
  have HG0 := Lib.hid (World.grownBy_alloc w (.cells #[.int .i64 0, .int .i64 0, .int .i64 0, .int .i64 0, .int .i64 0, .int .i64 0, .int .i64 0, .int .i64 0, .int .i64 0] 42) (some p))
  rw [← hw0] at KR HC0 HG0
  try rw [← hw0]
  try rw [← hs0]
  clear hw0 HC
  have HC := HC0
  clear HC0
  have hpx : p < w0.heap.size := HC.out.lt
  have hrx := KR.lt
  refine (AM.out k 5 _ (some ⟨w0.heap.size, 0, none⟩) [0, 0, 5, 10, 11] _ ((HC.out).alloc _) (by omega) rfl (by decide) (by decide) (rd_ints (w := w0) [0, 0, 5, 10, 11] 3) (fun g o q e => by have := HC.out.lt; injection e with e; injection e with e; simp at *; omega)).mono ?_
  rintro e w1 ⟨v1, k1, rfl, ⟨z1, m1, rfl⟩, hk1, hc, hg⟩
  have hg' := grown_trans (World.grownBy_alloc w0 _ _) hg
  have KR1 := KR.grown hg' (by simp; omega)
  have HG1 := Lib.hid (grown_trans HG0.out hg')
  clear HC
  have HC := Lib.hid hc
  clear hg hc hg' HG0 KR 
  clear hpx hrx
  have hl1 : 0 ≤ z1 ∧ z1 ≤ 100 := by simp at m1; omega
  clear m1
  go_wp2_with fail
  have hpx : p < w1.heap.size := HC.out.lt
  have hrx := KR1.lt
  refine (AM.out k1 6 _ (some ⟨w1.heap.size, 0, none⟩) [0, 4, 5, 9, 10, 14] _ ((HC.out).alloc _) (by omega) rfl (by decide) (by decide) (rd_ints (w := w1) [0, 4, 5, 9, 10, 14] 3) (fun g o q e => by have := HC.out.lt; injection e with e; injection e with e; simp at *; omega)).mono ?_
  rintro e w2 ⟨v2, k2, rfl, ⟨z2, -, rfl⟩, hk2, hc, hg⟩
  have hg' := grown_trans (World.grownBy_alloc w1 _ _) hg
  have KR2 := KR1.grown hg' (by simp; omega)
  have HG2 := Lib.hid (grown_trans HG1.out hg')
  clear HC
  have HC := Lib.hid hc
  clear hg hc hg' HG1 KR1 
  clear hpx hrx
  go_wp2_with fail
  have hpx : p < w2.heap.size := HC.out.lt
  refine (PK.out k2 3 _ HC.out (by omega) (by decide) (by decide)).mono ?_
  rintro e w3 ⟨v3, k3, rfl, ⟨r3, rfl, a3, b3⟩, hk3, hc, hg⟩
  have hg' := hg
  have KR3 := KR2.grown hg' (by simp; omega)
  have HG3 := Lib.hid (grown_trans HG2.out hg')
  clear HC
  have HC := Lib.hid hc
  clear hg hc hg' HG2 KR2 
  clear hpx
  go_wp2_with fail
  have hpx : p < w3.heap.size := HC.out.lt
  have hrx := KR3.lt
  refine (AM.out k3 6 _ (some ⟨w3.heap.size, 0, none⟩) [1, 20, 21, 50, 100, 101] _ ((HC.out).alloc _) (by omega) rfl (by decide) (by decide) (rd_ints (w := w3) [1, 20, 21, 50, 100, 101] 3) (fun g o q e => by have := HC.out.lt; injection e with e; injection e with e; simp at *; omega)).mono ?_
  rintro e w4 ⟨v4, k4, rfl, ⟨z4, -, rfl⟩, hk4, hc, hg⟩
  have hg' := grown_trans (World.grownBy_alloc w3 _ _) hg
  have KR4 := KR3.grown hg' (by simp; omega)
  have HG4 := Lib.hid (grown_trans HG3.out hg')
  clear HC
  have HC := Lib.hid hc
  clear hg hc hg' HG3 KR3 
  clear hpx hrx
  go_wp2_with fail
  have hpx : p < w4.heap.size := HC.out.lt
  have hrx := KR4.lt
  refine (AM.out k4 8 _ (some ⟨w4.heap.size, 0, none⟩) [3, 4, 5, 5, 10, 12, 25, 60] _ ((HC.out).alloc _) (by omega) rfl (by decide) (by decide) (rd_ints (w := w4) [3, 4, 5, 5, 10, 12, 25, 60] 3) (fun g o q e => by have := HC.out.lt; injection e with e; injection e with e; simp at *; omega)).mono ?_
  rintro e w5 ⟨v5, k5, rfl, ⟨z5, -, rfl⟩, hk5, hc, hg⟩
  have hg' := grown_trans (World.grownBy_alloc w4 _ _) hg
  have KR5 := KR4.grown hg' (by simp; omega)
  have HG5 := Lib.hid (grown_trans HG4.out hg')
  clear HC
  have HC := Lib.hid hc
  clear hg hc hg' HG4 KR4 
  clear hpx hrx
  go_wp2_with fail
  have hpx : p < w5.heap.size := HC.out.lt
  refine (PK.out k5 4 _ HC.out (by omega) (by decide) (by decide)).mono ?_
  rintro e w6 ⟨v6, k6, rfl, ⟨r6, rfl, a6, b6⟩, hk6, hc, hg⟩
  have hg' := hg
  have KR6 := KR5.grown hg' (by simp; omega)
  have HG6 := Lib.hid (grown_trans HG5.out hg')
  clear HC
  have HC := Lib.hid hc
  clear hg hc hg' HG5 KR5 
  clear hpx
  go_wp2_with fail
  have hpx : p < w6.heap.size := HC.out.lt
  refine (PK.out k6 4 _ HC.out (by omega) (by decide) (by decide)).mono ?_
  rintro e w7 ⟨v7, k7, rfl, ⟨r7, rfl, a7, b7⟩, hk7, hc, hg⟩
  have hg' := hg
  have KR7 := KR6.grown hg' (by simp; omega)
  have HG7 := Lib.hid (grown_trans HG6.out hg')
  clear HC
  have HC := Lib.hid hc
  clear hg hc hg' HG6 KR6 
  clear hpx
  go_wp2_with fail
  have hpx : p < w7.heap.size := HC.out.lt
  have hrx := KR7.lt
  refine (AM.out k7 6 _ (some ⟨w7.heap.size, 0, none⟩) [0, 10, 30, 60, 90, 900] _ ((HC.out).alloc _) (by omega) rfl (by decide) (by decide) (rd_ints (w := w7) [0, 10, 30, 60, 90, 900] 3) (fun g o q e => by have := HC.out.lt; injection e with e; injection e with e; simp at *; omega)).mono ?_
  rintro e w8 ⟨v8, k8, rfl, ⟨z8, m8, rfl⟩, hk8, hc, hg⟩
  have hg' := grown_trans (World.grownBy_alloc w7 _ _) hg
  have KR8 := KR7.grown hg' (by simp; omega)
  have HG8 := Lib.hid (grown_trans HG7.out hg')
  clear HC
  have HC := Lib.hid hc
  clear hg hc hg' HG7 KR7 
  clear hpx hrx
  have hl2 : 0 ≤ z8 ∧ z8 ≤ 1000 := by simp at m8; omega
  clear m8
  have hw1 : IntKind.i64.wrap (z1 + z8) = z1 + z8 := IntWalk.i64_in _ (by omega)
  by_cases hft : r6 = r7
  · have hb1 : (r6 == r7) = true := by simp [hft]
    have HFT := Lib.hid hft
    clear hft
    go_wp2_with fail
    have KX9 : Blk (w8.alloc (.cells #[.int .i64 id, .int .i64 z2, .int .i64 r3, .int .i64 z4, .int .i64 z5, .int .i64 r6, .int .i64 r7, .int .i64 z1, .int .i64 (z1 + z8)] 42)) w8.heap.size [.int .i64 id, .int .i64 z2, .int .i64 r3, .int .i64 z4, .int .i64 z5, .int .i64 r6, .int .i64 r7, .int .i64 z1, .int .i64 (z1 + z8)] := Blk.new w8 _ _
    obtain ⟨w9, hw9⟩ : ∃ wx, wx = (w8.alloc (.cells #[.int .i64 id, .int .i64 z2, .int .i64 r3, .int .i64 z4, .int .i64 z5, .int .i64 r6, .int .i64 r7, .int .i64 z1, .int .i64 (z1 + z8)] 42)) := ⟨_, rfl⟩
    have hsx : w9.heap.size = w8.heap.size + 1 := by rw [hw9]; simp
    have hszx : w.heap.size ≤ w8.heap.size := HG8.out.size
    have hslx : w.heap.size < w8.heap.size := KR8.lt
    have hplx : p < w8.heap.size := HC.out.lt
    have HCX := Lib.hid (HC.out.alloc (.cells #[.int .i64 id, .int .i64 z2, .int .i64 r3, .int .i64 z4, .int .i64 z5, .int .i64 r6, .int .i64 r7, .int .i64 z1, .int .i64 (z1 + z8)] 42))
    have HG9 := Lib.hid (grown_alloc HG8.out (.cells #[.int .i64 id, .int .i64 z2, .int .i64 r3, .int .i64 z4, .int .i64 z5, .int .i64 r6, .int .i64 r7, .int .i64 z1, .int .i64 (z1 + z8)] 42))
    have KR9 := KR8.alloc (.cells #[.int .i64 id, .int .i64 z2, .int .i64 r3, .int .i64 z4, .int .i64 z5, .int .i64 r6, .int .i64 r7, .int .i64 z1, .int .i64 (z1 + z8)] 42)
    rw [← hw9] at KX9 HCX HG9 KR9
    try rw [← hw9]
    try rw [← hsx]
    clear hw9 HC HG8 KR8
    have HC := HCX
    clear HCX
    have hxr2 : ¬ w8.heap.size = w.heap.size := by omega
    have hxr3 : ¬ w.heap.size = w8.heap.size := by omega
    go_wp2_with fail
    have hpx : p < w9.heap.size := HC.out.lt
    refine (ON.out k8 16 _ HC.out (by omega) (by decide) (by decide)).mono ?_
    rintro e w10 ⟨v10, k10, rfl, ⟨b10, rfl⟩, hk10, hc, hg⟩
    have hg' := hg
    have KR10 := KR9.grown hg' (by simp; omega)
    have KX10 := KX9.grown hg' (by simp; omega)
    have HG10 := Lib.hid (grown_trans HG9.out hg')
    clear HC
    have HC := Lib.hid hc
    clear hg hc hg' HG9 KR9 KX9
    clear hpx
    cases b10 with
    | true =>
      go_wp2_with fail
      have hpx : p < w10.heap.size := HC.out.lt
      refine (PK.out k10 64 _ HC.out (by omega) (by decide) (by decide)).mono ?_
      rintro e w11 ⟨v11, k11, rfl, ⟨r11, rfl, a11, b11⟩, hk11, hc, hg⟩
      have hg' := hg
      have KR11 := KR10.grown hg' (by simp; omega)
      have KX11 := KX10.grown hg' (by simp; omega)
      have HG11 := Lib.hid (grown_trans HG10.out hg')
      clear HC
      have HC := Lib.hid hc
      clear hg hc hg' HG10 KR10 KX10
      clear hpx
      by_cases h0 : r11 = 0
      · subst h0
        go_wp2_with fail
        have hpx : p < w11.heap.size := HC.out.lt
        have hrx := KR11.lt
        have hxx := KX11.lt
        refine (AM.out k11 2 _ (some ⟨w11.heap.size, 0, none⟩) [0, 10000] _ ((HC.out).alloc _) (by omega) rfl (by decide) (by decide) (rd_ints (w := w11) [0, 10000] 3) (fun g o q e => by have := HC.out.lt; injection e with e; injection e with e; simp at *; omega)).mono ?_
        rintro e w12 ⟨v12, k12, rfl, ⟨z12, -, rfl⟩, hk12, hc, hg⟩
        have hg' := grown_trans (World.grownBy_alloc w11 _ _) hg
        have KR12 := KR11.grown hg' (by simp; omega)
        have KX12 := KX11.grown hg' (by simp; omega)
        have HG12 := Lib.hid (grown_trans HG11.out hg')
        clear HC
        have HC := Lib.hid hc
        clear hg hc hg' HG11 KR11 KX11
        clear hpx hrx hxx
        have x0 := KX12.cell 0 _ rfl
        have rr0 := KR12.cell 0 _ rfl
        have rf0 := KR12.fr 0 (by simp)
        have x1 := KX12.cell 1 _ rfl
        have rr1 := KR12.cell 1 _ rfl
        have rf1 := KR12.fr 1 (by simp)
        have x2 := KX12.cell 2 _ rfl
        have rr2 := KR12.cell 2 _ rfl
        have rf2 := KR12.fr 2 (by simp)
        have x3 := KX12.cell 3 _ rfl
        have rr3 := KR12.cell 3 _ rfl
        have rf3 := KR12.fr 3 (by simp)
        have x4 := KX12.cell 4 _ rfl
        have rr4 := KR12.cell 4 _ rfl
        have rf4 := KR12.fr 4 (by simp)
        have x5 := KX12.cell 5 _ rfl
        have rr5 := KR12.cell 5 _ rfl
        have rf5 := KR12.fr 5 (by simp)
        have x6 := KX12.cell 6 _ rfl
        have rr6 := KR12.cell 6 _ rfl
        have rf6 := KR12.fr 6 (by simp)
        have x7 := KX12.cell 7 _ rfl
        have rr7 := KR12.cell 7 _ rfl
        have rf7 := KR12.fr 7 (by simp)
        have x8 := KX12.cell 8 _ rfl
        have rr8 := KR12.cell 8 _ rfl
        have rf8 := KR12.fr 8 (by simp)
        have xf4 := KX12.fr 4 (by simp)
        have HKR := Lib.hid KR12
        have HKX := Lib.hid KX12
        clear KR12 KX12
        go_wp2
        have HL := Lib.hid HC.out.lt
        exact bodyPost_ret (v := .agg #[.int .i64 id, .int .i64 z2, .int .i64 r3, .int .i64 z4, .int .i64 z12, .int .i64 r6, .int .i64 r7, .int .i64 z1, .int .i64 (z1 + z8)]) (by simp [results, Try.results43, go_sem, rr0, rr1, rr2, rr3, rr4, rr5, rr6, rr7, rr8]) rfl ⟨_, k12, rfl, ⟨⟨id, z2, r3, z4, z12, r6, r7, z1, (z1 + z8)⟩, rfl⟩, by omega, ((((((((((HC.out.other (by omega) _).other (by omega) _).other (by omega) _).other (by omega) _).other (by omega) _).other (by omega) _).other (by omega) _).other (by omega) _).other (by omega) _).other (by omega) _), (grown_other (grown_other (grown_other (grown_other (grown_other (grown_other (grown_other (grown_other (grown_other (grown_other HG12.out (by omega) _ _) (by omega) _ _) (by omega) _ _) (by omega) _ _) (by omega) _ _) (by omega) _ _) (by omega) _ _) (by omega) _ _) (by omega) _ _) (by omega) _ _)⟩
      · by_cases h1 : r11 = 1
        · subst h1
          go_wp2_with fail
          have hpx : p < w11.heap.size := HC.out.lt
          have hrx := KR11.lt
          have hxx := KX11.lt
          refine (AM.out k11 3 _ (some ⟨w11.heap.size, 0, none⟩) [-1, 9999, 10000] _ ((HC.out).alloc _) (by omega) rfl (by decide) (by decide) (rd_ints (w := w11) [-1, 9999, 10000] 3) (fun g o q e => by have := HC.out.lt; injection e with e; injection e with e; simp at *; omega)).mono ?_
          rintro e w12 ⟨v12, k12, rfl, ⟨z12, -, rfl⟩, hk12, hc, hg⟩
          have hg' := grown_trans (World.grownBy_alloc w11 _ _) hg
          have KR12 := KR11.grown hg' (by simp; omega)
          have KX12 := KX11.grown hg' (by simp; omega)
          have HG12 := Lib.hid (grown_trans HG11.out hg')
          clear HC
          have HC := Lib.hid hc
          clear hg hc hg' HG11 KR11 KX11
          clear hpx hrx hxx
          have x0 := KX12.cell 0 _ rfl
          have rr0 := KR12.cell 0 _ rfl
          have rf0 := KR12.fr 0 (by simp)
          have x1 := KX12.cell 1 _ rfl
          have rr1 := KR12.cell 1 _ rfl
          have rf1 := KR12.fr 1 (by simp)
          have x2 := KX12.cell 2 _ rfl
          have rr2 := KR12.cell 2 _ rfl
          have rf2 := KR12.fr 2 (by simp)
          have x3 := KX12.cell 3 _ rfl
          have rr3 := KR12.cell 3 _ rfl
          have rf3 := KR12.fr 3 (by simp)
          have x4 := KX12.cell 4 _ rfl
          have rr4 := KR12.cell 4 _ rfl
          have rf4 := KR12.fr 4 (by simp)
          have x5 := KX12.cell 5 _ rfl
          have rr5 := KR12.cell 5 _ rfl
          have rf5 := KR12.fr 5 (by simp)
          have x6 := KX12.cell 6 _ rfl
          have rr6 := KR12.cell 6 _ rfl
          have rf6 := KR12.fr 6 (by simp)
          have x7 := KX12.cell 7 _ rfl
          have rr7 := KR12.cell 7 _ rfl
          have rf7 := KR12.fr 7 (by simp)
          have x8 := KX12.cell 8 _ rfl
          have rr8 := KR12.cell 8 _ rfl
          have rf8 := KR12.fr 8 (by simp)
          have xf8 := KX12.fr 8 (by simp)
          have HKR := Lib.hid KR12
          have HKX := Lib.hid KX12
          clear KR12 KX12
          go_wp2
          have HL := Lib.hid HC.out.lt
          exact bodyPost_ret (v := .agg #[.int .i64 id, .int .i64 z2, .int .i64 r3, .int .i64 z4, .int .i64 z5, .int .i64 r6, .int .i64 r7, .int .i64 z1, .int .i64 z12]) (by simp [results, Try.results43, go_sem, rr0, rr1, rr2, rr3, rr4, rr5, rr6, rr7, rr8]) rfl ⟨_, k12, rfl, ⟨⟨id, z2, r3, z4, z5, r6, r7, z1, z12⟩, rfl⟩, by omega, ((((((((((HC.out.other (by omega) _).other (by omega) _).other (by omega) _).other (by omega) _).other (by omega) _).other (by omega) _).other (by omega) _).other (by omega) _).other (by omega) _).other (by omega) _), (grown_other (grown_other (grown_other (grown_other (grown_other (grown_other (grown_other (grown_other (grown_other (grown_other HG12.out (by omega) _ _) (by omega) _ _) (by omega) _ _) (by omega) _ _) (by omega) _ _) (by omega) _ _) (by omega) _ _) (by omega) _ _) (by omega) _ _) (by omega) _ _)⟩
        · have d0 : (r11 == 0) = false := by simp [h0]
          have d1 : (r11 == 1) = false := by simp [h1]
          have x0 := KX11.cell 0 _ rfl
          have rr0 := KR11.cell 0 _ rfl
          have rf0 := KR11.fr 0 (by simp)
          have x1 := KX11.cell 1 _ rfl
          have rr1 := KR11.cell 1 _ rfl
          have rf1 := KR11.fr 1 (by simp)
          have x2 := KX11.cell 2 _ rfl
          have rr2 := KR11.cell 2 _ rfl
          have rf2 := KR11.fr 2 (by simp)
          have x3 := KX11.cell 3 _ rfl
          have rr3 := KR11.cell 3 _ rfl
          have rf3 := KR11.fr 3 (by simp)
          have x4 := KX11.cell 4 _ rfl
          have rr4 := KR11.cell 4 _ rfl
          have rf4 := KR11.fr 4 (by simp)
          have x5 := KX11.cell 5 _ rfl
          have rr5 := KR11.cell 5 _ rfl
          have rf5 := KR11.fr 5 (by simp)
          have x6 := KX11.cell 6 _ rfl
          have rr6 := KR11.cell 6 _ rfl
          have rf6 := KR11.fr 6 (by simp)
          have x7 := KX11.cell 7 _ rfl
          have rr7 := KR11.cell 7 _ rfl
          have rf7 := KR11.fr 7 (by simp)
          have x8 := KX11.cell 8 _ rfl
          have rr8 := KR11.cell 8 _ rfl
          have rf8 := KR11.fr 8 (by simp)
          have HKR := Lib.hid KR11
          have HKX := Lib.hid KX11
          clear KR11 KX11
          go_wp2
          have HL := Lib.hid HC.out.lt
          exact bodyPost_ret (v := .agg #[.int .i64 id, .int .i64 z2, .int .i64 r3, .int .i64 z4, .int .i64 z5, .int .i64 r6, .int .i64 r7, .int .i64 z1, .int .i64 (z1 + z8)]) (by simp [results, Try.results43, go_sem, rr0, rr1, rr2, rr3, rr4, rr5, rr6, rr7, rr8]) rfl ⟨_, k11, rfl, ⟨⟨id, z2, r3, z4, z5, r6, r7, z1, (z1 + z8)⟩, rfl⟩, by omega, (((((((((HC.out.other (by omega) _).other (by omega) _).other (by omega) _).other (by omega) _).other (by omega) _).other (by omega) _).other (by omega) _).other (by omega) _).other (by omega) _), (grown_other (grown_other (grown_other (grown_other (grown_other (grown_other (grown_other (grown_other (grown_other HG11.out (by omega) _ _) (by omega) _ _) (by omega) _ _) (by omega) _ _) (by omega) _ _) (by omega) _ _) (by omega) _ _) (by omega) _ _) (by omega) _ _)⟩
    | false =>
      have x5 := KX10.cell 5 _ rfl
      have x6 := KX10.cell 6 _ rfl
      have xf6 := KX10.fr 6 (by simp)
      have hw5 : IntKind.i64.wrap (r6 + 1) = r6 + 1 := IntWalk.i64_in _ (by omega)
      have hw6 : IntKind.i64.wrap ((r6 + 1) % 4) = (r6 + 1) % 4 := IntWalk.i64_in _ (by omega)
      have hw7 : (r6 + 1).tmod 4 = (r6 + 1) % 4 := Int.tmod_eq_emod_of_nonneg (by omega)
      go_wp2_with fail
      clear x5 x6 xf6
      obtain ⟨w11, hws⟩ : ∃ ws, ws = (w10.setCell ⟨w8.heap.size, 6, none⟩ (.int .i64 ((r6 + 1) % 4))) := ⟨_, rfl⟩
      have HCs := Lib.hid (HC.out.other (q := w8.heap.size) (i := 6) (by omega) (.int .i64 ((r6 + 1) % 4)))
      have HG11 := Lib.hid (grown_other HG10.out (q := w8.heap.size) (by omega) 6 (.int .i64 ((r6 + 1) % 4)))
      have KX11 := KX10.set (i := 6) (by simp) (.int .i64 ((r6 + 1) % 4))
      have KR11 := KR10.other (g := w8.heap.size) (i := 6) (by omega) (.int .i64 ((r6 + 1) % 4))
      rw [← hws] at HCs HG11 KX11 KR11
      try rw [← hws]
      clear hws HC HG10 KX10 KR10
      have HC := HCs
      clear HCs
      go_wp2_with fail
      have hpx : p < w11.heap.size := HC.out.lt
      refine (PK.out k10 64 _ HC.out (by omega) (by decide) (by decide)).mono ?_
      rintro e w12 ⟨v12, k12, rfl, ⟨r12, rfl, a12, b12⟩, hk12, hc, hg⟩
      have hg' := hg
      have KR12 := KR11.grown hg' (by simp; omega)
      have KX12 := KX11.grown hg' (by simp; omega)
      have HG12 := Lib.hid (grown_trans HG11.out hg')
      clear HC
      have HC := Lib.hid hc
      clear hg hc hg' HG11 KR11 KX11
      clear hpx
      by_cases h0 : r12 = 0
      · subst h0
        go_wp2_with fail
        have hpx : p < w12.heap.size := HC.out.lt
        have hrx := KR12.lt
        have hxx := KX12.lt
        refine (AM.out k12 2 _ (some ⟨w12.heap.size, 0, none⟩) [0, 10000] _ ((HC.out).alloc _) (by omega) rfl (by decide) (by decide) (rd_ints (w := w12) [0, 10000] 3) (fun g o q e => by have := HC.out.lt; injection e with e; injection e with e; simp at *; omega)).mono ?_
        rintro e w13 ⟨v13, k13, rfl, ⟨z13, -, rfl⟩, hk13, hc, hg⟩
        have hg' := grown_trans (World.grownBy_alloc w12 _ _) hg
        have KR13 := KR12.grown hg' (by simp; omega)
        have KX13 := KX12.grown hg' (by simp; omega)
        have HG13 := Lib.hid (grown_trans HG12.out hg')
        clear HC
        have HC := Lib.hid hc
        clear hg hc hg' HG12 KR12 KX12
        clear hpx hrx hxx
        have x0 := KX13.cell 0 _ rfl
        have rr0 := KR13.cell 0 _ rfl
        have rf0 := KR13.fr 0 (by simp)
        have x1 := KX13.cell 1 _ rfl
        have rr1 := KR13.cell 1 _ rfl
        have rf1 := KR13.fr 1 (by simp)
        have x2 := KX13.cell 2 _ rfl
        have rr2 := KR13.cell 2 _ rfl
        have rf2 := KR13.fr 2 (by simp)
        have x3 := KX13.cell 3 _ rfl
        have rr3 := KR13.cell 3 _ rfl
        have rf3 := KR13.fr 3 (by simp)
        have x4 := KX13.cell 4 _ rfl
        have rr4 := KR13.cell 4 _ rfl
        have rf4 := KR13.fr 4 (by simp)
        have x5 := KX13.cell 5 _ rfl
        have rr5 := KR13.cell 5 _ rfl
        have rf5 := KR13.fr 5 (by simp)
        have x6 := KX13.cell 6 _ rfl
        have rr6 := KR13.cell 6 _ rfl
        have rf6 := KR13.fr 6 (by simp)
        have x7 := KX13.cell 7 _ rfl
        have rr7 := KR13.cell 7 _ rfl
        have rf7 := KR13.fr 7 (by simp)
        have x8 := KX13.cell 8 _ rfl
        have rr8 := KR13.cell 8 _ rfl
        have rf8 := KR13.fr 8 (by simp)
        have xf4 := KX13.fr 4 (by simp)
        have HKR := Lib.hid KR13
        have HKX := Lib.hid KX13
        clear KR13 KX13
        go_wp2
        have HL := Lib.hid HC.out.lt
        exact bodyPost_ret (v := .agg #[.int .i64 id, .int .i64 z2, .int .i64 r3, .int .i64 z4, .int .i64 z13, .int .i64 r6, .int .i64 ((r6 + 1) % 4), .int .i64 z1, .int .i64 (z1 + z8)]) (by simp [results, Try.results43, go_sem, rr0, rr1, rr2, rr3, rr4, rr5, rr6, rr7, rr8]) rfl ⟨_, k13, rfl, ⟨⟨id, z2, r3, z4, z13, r6, ((r6 + 1) % 4), z1, (z1 + z8)⟩, rfl⟩, by omega, ((((((((((HC.out.other (by omega) _).other (by omega) _).other (by omega) _).other (by omega) _).other (by omega) _).other (by omega) _).other (by omega) _).other (by omega) _).other (by omega) _).other (by omega) _), (grown_other (grown_other (grown_other (grown_other (grown_other (grown_other (grown_other (grown_other (grown_other (grown_other HG13.out (by omega) _ _) (by omega) _ _) (by omega) _ _) (by omega) _ _) (by omega) _ _) (by omega) _ _) (by omega) _ _) (by omega) _ _) (by omega) _ _) (by omega) _ _)⟩
      · by_cases h1 : r12 = 1
        · subst h1
          go_wp2_with fail
          have hpx : p < w12.heap.size := HC.out.lt
          have hrx := KR12.lt
          have hxx := KX12.lt
          refine (AM.out k12 3 _ (some ⟨w12.heap.size, 0, none⟩) [-1, 9999, 10000] _ ((HC.out).alloc _) (by omega) rfl (by decide) (by decide) (rd_ints (w := w12) [-1, 9999, 10000] 3) (fun g o q e => by have := HC.out.lt; injection e with e; injection e with e; simp at *; omega)).mono ?_
          rintro e w13 ⟨v13, k13, rfl, ⟨z13, -, rfl⟩, hk13, hc, hg⟩
          have hg' := grown_trans (World.grownBy_alloc w12 _ _) hg
          have KR13 := KR12.grown hg' (by simp; omega)
          have KX13 := KX12.grown hg' (by simp; omega)
          have HG13 := Lib.hid (grown_trans HG12.out hg')
          clear HC
          have HC := Lib.hid hc
          clear hg hc hg' HG12 KR12 KX12
          clear hpx hrx hxx
          have x0 := KX13.cell 0 _ rfl
          have rr0 := KR13.cell 0 _ rfl
          have rf0 := KR13.fr 0 (by simp)
          have x1 := KX13.cell 1 _ rfl
          have rr1 := KR13.cell 1 _ rfl
          have rf1 := KR13.fr 1 (by simp)
          have x2 := KX13.cell 2 _ rfl
          have rr2 := KR13.cell 2 _ rfl
          have rf2 := KR13.fr 2 (by simp)
          have x3 := KX13.cell 3 _ rfl
          have rr3 := KR13.cell 3 _ rfl
          have rf3 := KR13.fr 3 (by simp)
          have x4 := KX13.cell 4 _ rfl
          have rr4 := KR13.cell 4 _ rfl
          have rf4 := KR13.fr 4 (by simp)
          have x5 := KX13.cell 5 _ rfl
          have rr5 := KR13.cell 5 _ rfl
          have rf5 := KR13.fr 5 (by simp)
          have x6 := KX13.cell 6 _ rfl
          have rr6 := KR13.cell 6 _ rfl
          have rf6 := KR13.fr 6 (by simp)
          have x7 := KX13.cell 7 _ rfl
          have rr7 := KR13.cell 7 _ rfl
          have rf7 := KR13.fr 7 (by simp)
          have x8 := KX13.cell 8 _ rfl
          have rr8 := KR13.cell 8 _ rfl
          have rf8 := KR13.fr 8 (by simp)
          have xf8 := KX13.fr 8 (by simp)
          have HKR := Lib.hid KR13
          have HKX := Lib.hid KX13
          clear KR13 KX13
          go_wp2
          have HL := Lib.hid HC.out.lt
          exact bodyPost_ret (v := .agg #[.int .i64 id, .int .i64 z2, .int .i64 r3, .int .i64 z4, .int .i64 z5, .int .i64 r6, .int .i64 ((r6 + 1) % 4), .int .i64 z1, .int .i64 z13]) (by simp [results, Try.results43, go_sem, rr0, rr1, rr2, rr3, rr4, rr5, rr6, rr7, rr8]) rfl ⟨_, k13, rfl, ⟨⟨id, z2, r3, z4, z5, r6, ((r6 + 1) % 4), z1, z13⟩, rfl⟩, by omega, ((((((((((HC.out.other (by omega) _).other (by omega) _).other (by omega) _).other (by omega) _).other (by omega) _).other (by omega) _).other (by omega) _).other (by omega) _).other (by omega) _).other (by omega) _), (grown_other (grown_other (grown_other (grown_other (grown_other (grown_other (grown_other (grown_other (grown_other (grown_other HG13.out (by omega) _ _) (by omega) _ _) (by omega) _ _) (by omega) _ _) (by omega) _ _) (by omega) _ _) (by omega) _ _) (by omega) _ _) (by omega) _ _) (by omega) _ _)⟩
        · have d0 : (r12 == 0) = false := by simp [h0]
          have d1 : (r12 == 1) = false := by simp [h1]
          have x0 := KX12.cell 0 _ rfl
          have rr0 := KR12.cell 0 _ rfl
          have rf0 := KR12.fr 0 (by simp)
          have x1 := KX12.cell 1 _ rfl
          have rr1 := KR12.cell 1 _ rfl
          have rf1 := KR12.fr 1 (by simp)
          have x2 := KX12.cell 2 _ rfl
          have rr2 := KR12.cell 2 _ rfl
          have rf2 := KR12.fr 2 (by simp)
          have x3 := KX12.cell 3 _ rfl
          have rr3 := KR12.cell 3 _ rfl
          have rf3 := KR12.fr 3 (by simp)
          have x4 := KX12.cell 4 _ rfl
          have rr4 := KR12.cell 4 _ rfl
          have rf4 := KR12.fr 4 (by simp)
          have x5 := KX12.cell 5 _ rfl
          have rr5 := KR12.cell 5 _ rfl
          have rf5 := KR12.fr 5 (by simp)
          have x6 := KX12.cell 6 _ rfl
          have rr6 := KR12.cell 6 _ rfl
          have rf6 := KR12.fr 6 (by simp)
          have x7 := KX12.cell 7 _ rfl
          have rr7 := KR12.cell 7 _ rfl
          have rf7 := KR12.fr 7 (by simp)
          have x8 := KX12.cell 8 _ rfl
          have rr8 := KR12.cell 8 _ rfl
          have rf8 := KR12.fr 8 (by simp)
          have HKR := Lib.hid KR12
          have HKX := Lib.hid KX12
          clear KR12 KX12
          go_wp2
          have HL := Lib.hid HC.out.lt
          exact bodyPost_ret (v := .agg #[.int .i64 id, .int .i64 z2, .int .i64 r3, .int .i64 z4, .int .i64 z5, .int .i64 r6, .int .i64 ((r6 + 1) % 4), .int .i64 z1, .int .i64 (z1 + z8)]) (by simp [results, Try.results43, go_sem, rr0, rr1, rr2, rr3, rr4, rr5, rr6, rr7, rr8]) rfl ⟨_, k12, rfl, ⟨⟨id, z2, r3, z4, z5, r6, ((r6 + 1) % 4), z1, (z1 + z8)⟩, rfl⟩, by omega, (((((((((HC.out.other (by omega) _).other (by omega) _).other (by omega) _).other (by omega) _).other (by omega) _).other (by omega) _).other (by omega) _).other (by omega) _).other (by omega) _), (grown_other (grown_other (grown_other (grown_other (grown_other (grown_other (grown_other (grown_other (grown_other HG12.out (by omega) _ _) (by omega) _ _) (by omega) _ _) (by omega) _ _) (by omega) _ _) (by omega) _ _) (by omega) _ _) (by omega) _ _) (by omega) _ _)⟩
  · have hb1 : (r6 == r7) = false := by simp [hft]
    have HFT := Lib.hid hft
    clear hft
    go_wp2_with fail
    have KX9 : Blk (w8.alloc (.cells #[.int .i64 id, .int .i64 z2, .int .i64 r3, .int .i64 z4, .int .i64 z5, .int .i64 r6, .int .i64 r7, .int .i64 z1, .int .i64 (z1 + z8)] 42)) w8.heap.size [.int .i64 id, .int .i64 z2, .int .i64 r3, .int .i64 z4, .int .i64 z5, .int .i64 r6, .int .i64 r7, .int .i64 z1, .int .i64 (z1 + z8)] := Blk.new w8 _ _
    obtain ⟨w9, hw9⟩ : ∃ wx, wx = (w8.alloc (.cells #[.int .i64 id, .int .i64 z2, .int .i64 r3, .int .i64 z4, .int .i64 z5, .int .i64 r6, .int .i64 r7, .int .i64 z1, .int .i64 (z1 + z8)] 42)) := ⟨_, rfl⟩
    have hsx : w9.heap.size = w8.heap.size + 1 := by rw [hw9]; simp
    have hszx : w.heap.size ≤ w8.heap.size := HG8.out.size
    have hslx : w.heap.size < w8.heap.size := KR8.lt
    have hplx : p < w8.heap.size := HC.out.lt
    have HCX := Lib.hid (HC.out.alloc (.cells #[.int .i64 id, .int .i64 z2, .int .i64 r3, .int .i64 z4, .int .i64 z5, .int .i64 r6, .int .i64 r7, .int .i64 z1, .int .i64 (z1 + z8)] 42))
    have HG9 := Lib.hid (grown_alloc HG8.out (.cells #[.int .i64 id, .int .i64 z2, .int .i64 r3, .int .i64 z4, .int .i64 z5, .int .i64 r6, .int .i64 r7, .int .i64 z1, .int .i64 (z1 + z8)] 42))
    have KR9 := KR8.alloc (.cells #[.int .i64 id, .int .i64 z2, .int .i64 r3, .int .i64 z4, .int .i64 z5, .int .i64 r6, .int .i64 r7, .int .i64 z1, .int .i64 (z1 + z8)] 42)
    rw [← hw9] at KX9 HCX HG9 KR9
    try rw [← hw9]
    try rw [← hsx]
    clear hw9 HC HG8 KR8
    have HC := HCX
    clear HCX
    have hxr2 : ¬ w8.heap.size = w.heap.size := by omega
    have hxr3 : ¬ w.heap.size = w8.heap.size := by omega
    go_wp2_with fail
    have hpx : p < w9.heap.size := HC.out.lt
    refine (PK.out k8 64 _ HC.out (by omega) (by decide) (by decide)).mono ?_
    rintro e w10 ⟨v10, k10, rfl, ⟨r10, rfl, a10, b10⟩, hk10, hc, hg⟩
    have hg' := hg
    have KR10 := KR9.grown hg' (by simp; omega)
    have KX10 := KX9.grown hg' (by simp; omega)
    have HG10 := Lib.hid (grown_trans HG9.out hg')
    clear HC
    have HC := Lib.hid hc
    clear hg hc hg' HG9 KR9 KX9
    clear hpx
    by_cases h0 : r10 = 0
    · subst h0
      go_wp2_with fail
      have hpx : p < w10.heap.size := HC.out.lt
      have hrx := KR10.lt
      have hxx := KX10.lt
      refine (AM.out k10 2 _ (some ⟨w10.heap.size, 0, none⟩) [0, 10000] _ ((HC.out).alloc _) (by omega) rfl (by decide) (by decide) (rd_ints (w := w10) [0, 10000] 3) (fun g o q e => by have := HC.out.lt; injection e with e; injection e with e; simp at *; omega)).mono ?_
      rintro e w11 ⟨v11, k11, rfl, ⟨z11, -, rfl⟩, hk11, hc, hg⟩
      have hg' := grown_trans (World.grownBy_alloc w10 _ _) hg
      have KR11 := KR10.grown hg' (by simp; omega)
      have KX11 := KX10.grown hg' (by simp; omega)
      have HG11 := Lib.hid (grown_trans HG10.out hg')
      clear HC
      have HC := Lib.hid hc
      clear hg hc hg' HG10 KR10 KX10
      clear hpx hrx hxx
      have x0 := KX11.cell 0 _ rfl
      have rr0 := KR11.cell 0 _ rfl
      have rf0 := KR11.fr 0 (by simp)
      have x1 := KX11.cell 1 _ rfl
      have rr1 := KR11.cell 1 _ rfl
      have rf1 := KR11.fr 1 (by simp)
      have x2 := KX11.cell 2 _ rfl
      have rr2 := KR11.cell 2 _ rfl
      have rf2 := KR11.fr 2 (by simp)
      have x3 := KX11.cell 3 _ rfl
      have rr3 := KR11.cell 3 _ rfl
      have rf3 := KR11.fr 3 (by simp)
      have x4 := KX11.cell 4 _ rfl
      have rr4 := KR11.cell 4 _ rfl
      have rf4 := KR11.fr 4 (by simp)
      have x5 := KX11.cell 5 _ rfl
      have rr5 := KR11.cell 5 _ rfl
      have rf5 := KR11.fr 5 (by simp)
      have x6 := KX11.cell 6 _ rfl
      have rr6 := KR11.cell 6 _ rfl
      have rf6 := KR11.fr 6 (by simp)
      have x7 := KX11.cell 7 _ rfl
      have rr7 := KR11.cell 7 _ rfl
      have rf7 := KR11.fr 7 (by simp)
      have x8 := KX11.cell 8 _ rfl
      have rr8 := KR11.cell 8 _ rfl
      have rf8 := KR11.fr 8 (by simp)
      have xf4 := KX11.fr 4 (by simp)
      have HKR := Lib.hid KR11
      have HKX := Lib.hid KX11
      clear KR11 KX11
      go_wp2
      have HL := Lib.hid HC.out.lt
      exact bodyPost_ret (v := .agg #[.int .i64 id, .int .i64 z2, .int .i64 r3, .int .i64 z4, .int .i64 z11, .int .i64 r6, .int .i64 r7, .int .i64 z1, .int .i64 (z1 + z8)]) (by simp [results, Try.results43, go_sem, rr0, rr1, rr2, rr3, rr4, rr5, rr6, rr7, rr8]) rfl ⟨_, k11, rfl, ⟨⟨id, z2, r3, z4, z11, r6, r7, z1, (z1 + z8)⟩, rfl⟩, by omega, ((((((((((HC.out.other (by omega) _).other (by omega) _).other (by omega) _).other (by omega) _).other (by omega) _).other (by omega) _).other (by omega) _).other (by omega) _).other (by omega) _).other (by omega) _), (grown_other (grown_other (grown_other (grown_other (grown_other (grown_other (grown_other (grown_other (grown_other (grown_other HG11.out (by omega) _ _) (by omega) _ _) (by omega) _ _) (by omega) _ _) (by omega) _ _) (by omega) _ _) (by omega) _ _) (by omega) _ _) (by omega) _ _) (by omega) _ _)⟩
    · by_cases h1 : r10 = 1
      · subst h1
        go_wp2_with fail
        have hpx : p < w10.heap.size := HC.out.lt
        have hrx := KR10.lt
        have hxx := KX10.lt
        refine (AM.out k10 3 _ (some ⟨w10.heap.size, 0, none⟩) [-1, 9999, 10000] _ ((HC.out).alloc _) (by omega) rfl (by decide) (by decide) (rd_ints (w := w10) [-1, 9999, 10000] 3) (fun g o q e => by have := HC.out.lt; injection e with e; injection e with e; simp at *; omega)).mono ?_
        rintro e w11 ⟨v11, k11, rfl, ⟨z11, -, rfl⟩, hk11, hc, hg⟩
        have hg' := grown_trans (World.grownBy_alloc w10 _ _) hg
        have KR11 := KR10.grown hg' (by simp; omega)
        have KX11 := KX10.grown hg' (by simp; omega)
        have HG11 := Lib.hid (grown_trans HG10.out hg')
        clear HC
        have HC := Lib.hid hc
        clear hg hc hg' HG10 KR10 KX10
        clear hpx hrx hxx
        have x0 := KX11.cell 0 _ rfl
        have rr0 := KR11.cell 0 _ rfl
        have rf0 := KR11.fr 0 (by simp)
        have x1 := KX11.cell 1 _ rfl
        have rr1 := KR11.cell 1 _ rfl
        have rf1 := KR11.fr 1 (by simp)
        have x2 := KX11.cell 2 _ rfl
        have rr2 := KR11.cell 2 _ rfl
        have rf2 := KR11.fr 2 (by simp)
        have x3 := KX11.cell 3 _ rfl
        have rr3 := KR11.cell 3 _ rfl
        have rf3 := KR11.fr 3 (by simp)
        have x4 := KX11.cell 4 _ rfl
        have rr4 := KR11.cell 4 _ rfl
        have rf4 := KR11.fr 4 (by simp)
        have x5 := KX11.cell 5 _ rfl
        have rr5 := KR11.cell 5 _ rfl
        have rf5 := KR11.fr 5 (by simp)
        have x6 := KX11.cell 6 _ rfl
        have rr6 := KR11.cell 6 _ rfl
        have rf6 := KR11.fr 6 (by simp)
        have x7 := KX11.cell 7 _ rfl
        have rr7 := KR11.cell 7 _ rfl
        have rf7 := KR11.fr 7 (by simp)
        have x8 := KX11.cell 8 _ rfl
        have rr8 := KR11.cell 8 _ rfl
        have rf8 := KR11.fr 8 (by simp)
        have xf8 := KX11.fr 8 (by simp)
        have HKR := Lib.hid KR11
        have HKX := Lib.hid KX11
        clear KR11 KX11
        go_wp2
        have HL := Lib.hid HC.out.lt
        exact bodyPost_ret (v := .agg #[.int .i64 id, .int .i64 z2, .int .i64 r3, .int .i64 z4, .int .i64 z5, .int .i64 r6, .int .i64 r7, .int .i64 z1, .int .i64 z11]) (by simp [results, Try.results43, go_sem, rr0, rr1, rr2, rr3, rr4, rr5, rr6, rr7, rr8]) rfl ⟨_, k11, rfl, ⟨⟨id, z2, r3, z4, z5, r6, r7, z1, z11⟩, rfl⟩, by omega, ((((((((((HC.out.other (by omega) _).other (by omega) _).other (by omega) _).other (by omega) _).other (by omega) _).other (by omega) _).other (by omega) _).other (by omega) _).other (by omega) _).other (by omega) _), (grown_other (grown_other (grown_other (grown_other (grown_other (grown_other (grown_other (grown_other (grown_other (grown_other HG11.out (by omega) _ _) (by omega) _ _) (by omega) _ _) (by omega) _ _) (by omega) _ _) (by omega) _ _) (by omega) _ _) (by omega) _ _) (by omega) _ _) (by omega) _ _)⟩
      · have d0 : (r10 == 0) = false := by simp [h0]
        have d1 : (r10 == 1) = false := by simp [h1]
        have x0 := KX10.cell 0 _ rfl
        have rr0 := KR10.cell 0 _ rfl
        have rf0 := KR10.fr 0 (by simp)
        have x1 := KX10.cell 1 _ rfl
        have rr1 := KR10.cell 1 _ rfl
        have rf1 := KR10.fr 1 (by simp)
        have x2 := KX10.cell 2 _ rfl
        have rr2 := KR10.cell 2 _ rfl
        have rf2 := KR10.fr 2 (by simp)
        have x3 := KX10.cell 3 _ rfl
        have rr3 := KR10.cell 3 _ rfl
        have rf3 := KR10.fr 3 (by simp)
        have x4 := KX10.cell 4 _ rfl
        have rr4 := KR10.cell 4 _ rfl
        have rf4 := KR10.fr 4 (by simp)
        have x5 := KX10.cell 5 _ rfl
        have rr5 := KR10.cell 5 _ rfl
        have rf5 := KR10.fr 5 (by simp)
        have x6 := KX10.cell 6 _ rfl
        have rr6 := KR10.cell 6 _ rfl
        have rf6 := KR10.fr 6 (by simp)
        have x7 := KX10.cell 7 _ rfl
        have rr7 := KR10.cell 7 _ rfl
        have rf7 := KR10.fr 7 (by simp)
        have x8 := KX10.cell 8 _ rfl
        have rr8 := KR10.cell 8 _ rfl
        have rf8 := KR10.fr 8 (by simp)
        have HKR := Lib.hid KR10
        have HKX := Lib.hid KX10
        clear KR10 KX10
        go_wp2
        have HL := Lib.hid HC.out.lt
        exact bodyPost_ret (v := .agg #[.int .i64 id, .int .i64 z2, .int .i64 r3, .int .i64 z4, .int .i64 z5, .int .i64 r6, .int .i64 r7, .int .i64 z1, .int .i64 (z1 + z8)]) (by simp [results, Try.results43, go_sem, rr0, rr1, rr2, rr3, rr4, rr5, rr6, rr7, rr8]) rfl ⟨_, k10, rfl, ⟨⟨id, z2, r3, z4, z5, r6, r7, z1, (z1 + z8)⟩, rfl⟩, by omega, (((((((((HC.out.other (by omega) _).other (by omega) _).other (by omega) _).other (by omega) _).other (by omega) _).other (by omega) _).other (by omega) _).other (by omega) _).other (by omega) _), (grown_other (grown_other (grown_other (grown_other (grown_other (grown_other (grown_other (grown_other (grown_other HG10.out (by omega) _ _) (by omega) _ _) (by omega) _ _) (by omega) _ _) (by omega) _ _) (by omega) _ _) (by omega) _ _) (by omega) _ _) (by omega) _ _)⟩
end Go.Proofs.Ytobloedpmjkgpaa
