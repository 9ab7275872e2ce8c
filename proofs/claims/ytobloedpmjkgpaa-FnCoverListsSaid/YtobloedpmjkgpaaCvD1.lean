/- What the cursor draws: a rate, a mail, a cover. -/
import Derived.Test.YtobloedpmjkgpaaCurL
import Derived.Test.YtobloedpmjkgpaaCvA
namespace Go.Proofs.Ytobloedpmjkgpaa
set_option linter.unusedVariables false
set_option linter.unusedSimpArgs false
open Go.RowKit

def Agg4 (v : Value) : Prop := ∃ x : R4, v = .agg #[.int .i64 x.a, .int .i64 x.b, .int .i64 x.c, .int .i64 x.d] ∧ sm4 x
/-- A drawn rate: its Until is not far below its From. -/
def AggR (day : Int) (v : Value) : Prop := ∃ x : R5, v = .agg #[.int .i64 x.a, .int .i64 x.b, .int .i64 x.c, .int .i64 x.d, .int .i64 x.e] ∧ (0 ≤ day → -1 ≤ x.d)
def Agg9 (v : Value) : Prop := ∃ x : R9, v = .agg #[.int .i64 x.a, .int .i64 x.b, .int .i64 x.c, .int .i64 x.d, .int .i64 x.e, .int .i64 x.f, .int .i64 x.g, .int .i64 x.h, .int .i64 x.i]

set_option maxRecDepth 20000 in
set_option maxHeartbeats 8000000 in
theorem rate_any (p k : Nat) (u : Cu) (zone : Int) (grams : Int) (day : Int) (w : World) (h : CurB w p u k) (hk : k ≤ 800000) (hd : -100000 ≤ day ∧ day ≤ 100000) :
    Calls Try.prog 38 #[.pointer (some ⟨p, 0, none⟩), .int .i64 zone, .int .i64 grams, .int .i64 day] w (RetC p u k 10 (AggR day) w) := by
  have AM := Lib.hid (fun k n c A zs w h hk hz hn hn2 hA hf => among_any p k n c u A zs w h hk hz hn hn2 hA hf)
  have PK := Lib.hid (fun k m w h hk hm hm2 => pick_any p k m u w h hk hm hm2)
  have ON := Lib.hid (fun k m w h hk hm hm2 => one_any p k m u w h hk hm hm2)
  have HC := Lib.hid h
  have hp := h.lt
  clear h
  go_enter Try.func38, Try.ntmps38
  go_wp2_with fail
  have KR : Blk (w.alloc (.cells #[.int .i64 0, .int .i64 0, .int .i64 0, .int .i64 0, .int .i64 0] 61)) w.heap.size [.int .i64 0, .int .i64 0, .int .i64 0, .int .i64 0, .int .i64 0] := Blk.new w _ _
  obtain ⟨w0, hw0⟩ : ∃ w0, w0 = (w.alloc (.cells #[.int .i64 0, .int .i64 0, .int .i64 0, .int .i64 0, .int .i64 0] 61)) := ⟨_, rfl⟩
  have hs0 : w0.heap.size = w.heap.size + 1 := by rw [hw0]; simp
  have HC0 := Lib.hid (HC.out.alloc (.cells #[.int .i64 0, .int .i64 0, .int .i64 0, .int .i64 0, .int .i64 0] 61))
  have HG0 := Lib.hid (World.grownBy_alloc w (.cells #[.int .i64 0, .int .i64 0, .int .i64 0, .int .i64 0, .int .i64 0] 61) (some p))
  rw [← hw0] at KR HC0 HG0
  try rw [← hw0]
  try rw [← hs0]
  clear hw0 HC
  have HC := HC0
  clear HC0
  have hpx : p < w0.heap.size := HC.out.lt
  have hrx := KR.lt
  refine (AM.out k 4 _ (some ⟨w0.heap.size, 0, none⟩) [5, 9, 9, 19] _ ((HC.out).alloc _) (by omega) rfl (by decide) (by decide) (rd_ints (w := w0) [5, 9, 9, 19] 3) (fun g o q e => by have := HC.out.lt; injection e with e; injection e with e; simp at *; omega)).mono ?_
  rintro e w1 ⟨v1, k1, rfl, ⟨z1, m1, rfl⟩, hk1, hc, hg⟩
  have hg' := grown_trans (World.grownBy_alloc w0 _ _) hg
  have KR1 := KR.grown hg' (by simp; omega)
  have HG1 := Lib.hid (grown_trans HG0.out hg')
  clear HC
  have HC := Lib.hid hc
  clear hg hc hg' HG0 KR 
  clear hpx hrx
  have hz1 : 0 ≤ z1 ∧ z1 ≤ 100 := by simp at m1; omega
  clear m1
  have hw1 : IntKind.i64.wrap (day + z1) = day + z1 := IntWalk.i64_in _ (by omega)
  go_wp2_with fail
  have hpx : p < w1.heap.size := HC.out.lt
  have hrx := KR1.lt
  refine (AM.out k1 7 _ (some ⟨w1.heap.size, 0, none⟩) [3, 5, 5, 10, 12, 25, 9999] _ ((HC.out).alloc _) (by omega) rfl (by decide) (by decide) (rd_ints (w := w1) [3, 5, 5, 10, 12, 25, 9999] 3) (fun g o q e => by have := HC.out.lt; injection e with e; injection e with e; simp at *; omega)).mono ?_
  rintro e w2 ⟨v2, k2, rfl, ⟨z2, -, rfl⟩, hk2, hc, hg⟩
  have hg' := grown_trans (World.grownBy_alloc w1 _ _) hg
  have KR2 := KR1.grown hg' (by simp; omega)
  have HG2 := Lib.hid (grown_trans HG1.out hg')
  clear HC
  have HC := Lib.hid hc
  clear hg hc hg' HG1 KR1 
  clear hpx hrx
  go_wp2_with fail
  have KX3 : Blk (w2.alloc (.cells #[.int .i64 zone, .int .i64 grams, .int .i64 day, .int .i64 (day + z1), .int .i64 z2] 61)) w2.heap.size [.int .i64 zone, .int .i64 grams, .int .i64 day, .int .i64 (day + z1), .int .i64 z2] := Blk.new w2 _ _
  obtain ⟨w3, hw3⟩ : ∃ wx, wx = (w2.alloc (.cells #[.int .i64 zone, .int .i64 grams, .int .i64 day, .int .i64 (day + z1), .int .i64 z2] 61)) := ⟨_, rfl⟩
  have hsx : w3.heap.size = w2.heap.size + 1 := by rw [hw3]; simp
  have hszx : w.heap.size ≤ w2.heap.size := HG2.out.size
  have hslx : w.heap.size < w2.heap.size := KR2.lt
  have hplx : p < w2.heap.size := HC.out.lt
  have HCX := Lib.hid (HC.out.alloc (.cells #[.int .i64 zone, .int .i64 grams, .int .i64 day, .int .i64 (day + z1), .int .i64 z2] 61))
  have HG3 := Lib.hid (grown_alloc HG2.out (.cells #[.int .i64 zone, .int .i64 grams, .int .i64 day, .int .i64 (day + z1), .int .i64 z2] 61))
  have KR3 := KR2.alloc (.cells #[.int .i64 zone, .int .i64 grams, .int .i64 day, .int .i64 (day + z1), .int .i64 z2] 61)
  rw [← hw3] at KX3 HCX HG3 KR3
  try rw [← hw3]
  try rw [← hsx]
  clear hw3 HC HG2 KR2
  have HC := HCX
  clear HCX
  have hxr2 : ¬ w2.heap.size = w.heap.size := by omega
  have hxr3 : ¬ w.heap.size = w2.heap.size := by omega
  go_wp2_with fail
  have hpx : p < w3.heap.size := HC.out.lt
  refine (PK.out k2 64 _ HC.out (by omega) (by decide) (by decide)).mono ?_
  rintro e w4 ⟨v4, k4, rfl, ⟨r4, rfl, a4, b4⟩, hk4, hc, hg⟩
  have hg' := hg
  have KR4 := KR3.grown hg' (by simp; omega)
  have KX4 := KX3.grown hg' (by simp; omega)
  have HG4 := Lib.hid (grown_trans HG3.out hg')
  clear HC
  have HC := Lib.hid hc
  clear hg hc hg' HG3 KR3 KX3
  clear hpx
  by_cases h0 : r4 = 0
  · subst h0
    have hw2 : IntKind.i64.wrap (day - 1) = day - 1 := IntWalk.i64_in _ (by omega)
    have x2 := KX4.cell 2 _ rfl
    go_wp2_with fail
    have hpx : p < w4.heap.size := HC.out.lt
    have hrx := KR4.lt
    have hxx := KX4.lt
    refine (AM.out k4 3 _ (some ⟨w4.heap.size, 0, none⟩) [day - 1, 4000, 4001] _ ((HC.out).alloc _) (by omega) rfl (by decide) (by decide) (rd_ints (w := w4) [day - 1, 4000, 4001] 3) (fun g o q e => by have := HC.out.lt; injection e with e; injection e with e; simp at *; omega)).mono ?_
    rintro e w5 ⟨v5, k5, rfl, ⟨z5, m5, rfl⟩, hk5, hc, hg⟩
    have hg' := grown_trans (World.grownBy_alloc w4 _ _) hg
    have KR5 := KR4.grown hg' (by simp; omega)
    have KX5 := KX4.grown hg' (by simp; omega)
    have HG5 := Lib.hid (grown_trans HG4.out hg')
    clear HC
    have HC := Lib.hid hc
    clear hg hc hg' HG4 KR4 KX4
    clear hpx hrx hxx
    have hz9 : 0 ≤ day → -1 ≤ z5 := by intro h; simp at m5; omega
    clear x2 m5
    have x0 := KX5.cell 0 _ rfl
    have rr0 := KR5.cell 0 _ rfl
    have rf0 := KR5.fr 0 (by simp)
    have x1 := KX5.cell 1 _ rfl
    have rr1 := KR5.cell 1 _ rfl
    have rf1 := KR5.fr 1 (by simp)
    have x2 := KX5.cell 2 _ rfl
    have rr2 := KR5.cell 2 _ rfl
    have rf2 := KR5.fr 2 (by simp)
    have x3 := KX5.cell 3 _ rfl
    have rr3 := KR5.cell 3 _ rfl
    have rf3 := KR5.fr 3 (by simp)
    have x4 := KX5.cell 4 _ rfl
    have rr4 := KR5.cell 4 _ rfl
    have rf4 := KR5.fr 4 (by simp)
    have xf3 := KX5.fr 3 (by simp)
    have HKR := Lib.hid KR5
    have HKX := Lib.hid KX5
    clear KR5 KX5
    go_wp2
    have HL := Lib.hid HC.out.lt
    exact bodyPost_ret (v := .agg #[.int .i64 zone, .int .i64 grams, .int .i64 day, .int .i64 z5, .int .i64 z2]) (by simp [results, Try.results38, go_sem, rr0, rr1, rr2, rr3, rr4]) rfl ⟨_, k5, rfl, ⟨⟨zone, grams, day, z5, z2⟩, rfl, by simp only; omega⟩, by omega, ((((((HC.out.other (by omega) _).other (by omega) _).other (by omega) _).other (by omega) _).other (by omega) _).other (by omega) _), (grown_other (grown_other (grown_other (grown_other (grown_other (grown_other HG5.out (by omega) _ _) (by omega) _ _) (by omega) _ _) (by omega) _ _) (by omega) _ _) (by omega) _ _)⟩
  · by_cases h1 : r4 = 1
    · subst h1
      go_wp2_with fail
      have hpx : p < w4.heap.size := HC.out.lt
      have hrx := KR4.lt
      have hxx := KX4.lt
      refine (AM.out k4 2 _ (some ⟨w4.heap.size, 0, none⟩) [0, 10000] _ ((HC.out).alloc _) (by omega) rfl (by decide) (by decide) (rd_ints (w := w4) [0, 10000] 3) (fun g o q e => by have := HC.out.lt; injection e with e; injection e with e; simp at *; omega)).mono ?_
      rintro e w5 ⟨v5, k5, rfl, ⟨z5, -, rfl⟩, hk5, hc, hg⟩
      have hg' := grown_trans (World.grownBy_alloc w4 _ _) hg
      have KR5 := KR4.grown hg' (by simp; omega)
      have KX5 := KX4.grown hg' (by simp; omega)
      have HG5 := Lib.hid (grown_trans HG4.out hg')
      clear HC
      have HC := Lib.hid hc
      clear hg hc hg' HG4 KR4 KX4
      clear hpx hrx hxx
      have x0 := KX5.cell 0 _ rfl
      have rr0 := KR5.cell 0 _ rfl
      have rf0 := KR5.fr 0 (by simp)
      have x1 := KX5.cell 1 _ rfl
      have rr1 := KR5.cell 1 _ rfl
      have rf1 := KR5.fr 1 (by simp)
      have x2 := KX5.cell 2 _ rfl
      have rr2 := KR5.cell 2 _ rfl
      have rf2 := KR5.fr 2 (by simp)
      have x3 := KX5.cell 3 _ rfl
      have rr3 := KR5.cell 3 _ rfl
      have rf3 := KR5.fr 3 (by simp)
      have x4 := KX5.cell 4 _ rfl
      have rr4 := KR5.cell 4 _ rfl
      have rf4 := KR5.fr 4 (by simp)
      have xf4 := KX5.fr 4 (by simp)
      have HKR := Lib.hid KR5
      have HKX := Lib.hid KX5
      clear KR5 KX5
      go_wp2
      have HL := Lib.hid HC.out.lt
      exact bodyPost_ret (v := .agg #[.int .i64 zone, .int .i64 grams, .int .i64 day, .int .i64 (day + z1), .int .i64 z5]) (by simp [results, Try.results38, go_sem, rr0, rr1, rr2, rr3, rr4]) rfl ⟨_, k5, rfl, ⟨⟨zone, grams, day, (day + z1), z5⟩, rfl, by simp only; omega⟩, by omega, ((((((HC.out.other (by omega) _).other (by omega) _).other (by omega) _).other (by omega) _).other (by omega) _).other (by omega) _), (grown_other (grown_other (grown_other (grown_other (grown_other (grown_other HG5.out (by omega) _ _) (by omega) _ _) (by omega) _ _) (by omega) _ _) (by omega) _ _) (by omega) _ _)⟩
    · have d0 : (r4 == 0) = false := by simp [h0]
      have d1 : (r4 == 1) = false := by simp [h1]
      have x0 := KX4.cell 0 _ rfl
      have rr0 := KR4.cell 0 _ rfl
      have rf0 := KR4.fr 0 (by simp)
      have x1 := KX4.cell 1 _ rfl
      have rr1 := KR4.cell 1 _ rfl
      have rf1 := KR4.fr 1 (by simp)
      have x2 := KX4.cell 2 _ rfl
      have rr2 := KR4.cell 2 _ rfl
      have rf2 := KR4.fr 2 (by simp)
      have x3 := KX4.cell 3 _ rfl
      have rr3 := KR4.cell 3 _ rfl
      have rf3 := KR4.fr 3 (by simp)
      have x4 := KX4.cell 4 _ rfl
      have rr4 := KR4.cell 4 _ rfl
      have rf4 := KR4.fr 4 (by simp)
      have HKR := Lib.hid KR4
      have HKX := Lib.hid KX4
      clear KR4 KX4
      go_wp2
      have HL := Lib.hid HC.out.lt
      exact bodyPost_ret (v := .agg #[.int .i64 zone, .int .i64 grams, .int .i64 day, .int .i64 (day + z1), .int .i64 z2]) (by simp [results, Try.results38, go_sem, rr0, rr1, rr2, rr3, rr4]) rfl ⟨_, k4, rfl, ⟨⟨zone, grams, day, (day + z1), z2⟩, rfl, by simp only; omega⟩, by omega, (((((HC.out.other (by omega) _).other (by omega) _).other (by omega) _).other (by omega) _).other (by omega) _), (grown_other (grown_other (grown_other (grown_other (grown_other HG4.out (by omega) _ _) (by omega) _ _) (by omega) _ _) (by omega) _ _) (by omega) _ _)⟩

end Go.Proofs.Ytobloedpmjkgpaa
