/- What the cursor draws of insurances. -/
import Derived.Test.YtiafiehglfmjaaaDoorCurL
import Derived.Test.YtiafiehglfmjaaaDoorInsB
namespace Go.Proofs.YtiafiehglfmjaaaDoor
set_option linter.unusedVariables false
set_option linter.unusedSimpArgs false
open Go.RowKit

theorem l1LeastE (a b : Int) (w : World) : Calls Tryd.prog 42 #[.int .i64 a, .int .i64 b] w (fun e w' => (∃ L, e = .returned (.int .i64 L)) ∧ w = w') :=
  (l1Least_any a b w).mono (fun e w' h => ⟨⟨_, h.1⟩, h.2⟩)
set_option maxHeartbeats 400000 in
theorem l1MostE (a b : Int) (w : World) : Calls Tryd.prog 49 #[.int .i64 a, .int .i64 b] w (fun e w' => (∃ L, e = .returned (.int .i64 L)) ∧ w = w') := by
  by_cases h : b < a
  · have h2 : decide (b < a) = true := by simp [h]
    go_enter Tryd.func49, Tryd.ntmps49
    go_wp2
    go_ret
    exact ⟨⟨_, rfl⟩, rfl⟩
  · have h2 : decide (b < a) = false := by simp; omega
    have h3 : a ≤ b := by omega
    go_enter Tryd.func49, Tryd.ntmps49
    go_wp2
    go_ret
    exact ⟨⟨_, rfl⟩, rfl⟩

set_option maxRecDepth 20000 in
set_option maxHeartbeats 8000000 in
theorem insured26_any (p k : Nat) (u : Cu) (item day : Int) (w : World) (h : CurB w p u k) (hk : k ≤ 800000) :
    Calls Tryd.prog 36 #[.pointer (some ⟨p, 0, none⟩), .int .i64 item, .int .i64 day] w (RetC p u k 10 AggV w) := by
  have AM := Lib.hid (fun k n c A zs w h hk hz hn hn2 hA hf => among_any p k n c u A zs w h hk hz hn hn2 hA hf)
  have PK := Lib.hid (fun k m w h hk hm hm2 => pick_any p k m u w h hk hm hm2)
  have LE := Lib.hid (fun a b w => l1LeastE a b w)
  have HC := Lib.hid h
  have hp := h.lt
  clear h
  go_enter Tryd.func36, Tryd.ntmps36
  go_wp2_with fail
  have KR : Blk (w.alloc (.cells #[.int .i64 0, .int .i64 0, .int .i64 0, .int .i64 0, .int .i64 0] 33)) w.heap.size [.int .i64 0, .int .i64 0, .int .i64 0, .int .i64 0, .int .i64 0] := Blk.new w _ _
  obtain ⟨w0, hw0⟩ : ∃ w0, w0 = (w.alloc (.cells #[.int .i64 0, .int .i64 0, .int .i64 0, .int .i64 0, .int .i64 0] 33)) := ⟨_, rfl⟩
  have hs0 : w0.heap.size = w.heap.size + 1 := by rw [hw0]; simp
  have HC0 := Lib.hid (HC.out.alloc (.cells #[.int .i64 0, .int .i64 0, .int .i64 0, .int .i64 0, .int .i64 0] 33))
  have HG0 := Lib.hid (World.grownBy_alloc w (.cells #[.int .i64 0, .int .i64 0, .int .i64 0, .int .i64 0, .int .i64 0] 33) (some p))
  rw [← hw0] at KR HC0 HG0
  rw [← hw0, ← hs0]
  clear hw0 HC
  have HC := HC0
  clear HC0
  refine (AM.out k 5 _ (some ⟨w0.heap.size, 0, none⟩) [1, 100, 250, 1000, 10000000] _ ((HC.out).alloc _) (by omega) rfl (by decide) (by decide) (rd_ints (w := w0) [1, 100, 250, 1000, 10000000] 3) (fun g o q e => by have := HC.out.lt; injection e with e; injection e with e; simp at *; omega)).mono ?_
  rintro e w1 ⟨vw1, k1, rfl, ⟨zw1, -, rfl⟩, hk1, hc, hg⟩
  have hg1' := grown_trans (World.grownBy_alloc w0 _ _) hg
  have KR1 := KR.grown hg1' (by simp; omega)
  clear KR
  have HG1 := Lib.hid (grown_trans HG0.out hg1')
  clear HC
  have HC := Lib.hid hc
  clear hg hc hg1' HG0
  go_wp2_with fail
  refine (AM.out k1 4 _ (some ⟨w1.heap.size, 0, none⟩) [1, 20, 35, 500] _ ((HC.out).alloc _) (by omega) rfl (by decide) (by decide) (rd_ints (w := w1) [1, 20, 35, 500] 3) (fun g o q e => by have := HC.out.lt; injection e with e; injection e with e; simp at *; omega)).mono ?_
  rintro e w2 ⟨vw2, k2, rfl, ⟨zw2, -, rfl⟩, hk2, hc, hg⟩
  have hr1 := KR1.lt
  have hg1' := grown_trans (World.grownBy_alloc w1 _ _) hg
  have KR2 := KR1.grown hg1' (by simp; omega)
  clear KR1
  have HG2 := Lib.hid (grown_trans HG1.out hg1')
  clear HC
  have HC := Lib.hid hc
  clear hg hc hg1' HG1
  go_wp2_with fail
  have KX : Blk (w2.alloc (.cells #[.int .i64 item, .int .i64 day, .int .i64 0, .int .i64 zw1, .int .i64 zw2] 33)) w2.heap.size [.int .i64 item, .int .i64 day, .int .i64 0, .int .i64 zw1, .int .i64 zw2] := Blk.new w2 _ _
  obtain ⟨wx, hwx⟩ : ∃ wx, wx = (w2.alloc (.cells #[.int .i64 item, .int .i64 day, .int .i64 0, .int .i64 zw1, .int .i64 zw2] 33)) := ⟨_, rfl⟩
  have hsx : wx.heap.size = w2.heap.size + 1 := by rw [hwx]; simp
  have hsz2 : w.heap.size ≤ w2.heap.size := HG2.out.size
  have hsl2 : w.heap.size < w2.heap.size := KR2.lt
  have HCX := Lib.hid (HC.out.alloc (.cells #[.int .i64 item, .int .i64 day, .int .i64 0, .int .i64 zw1, .int .i64 zw2] 33))
  have HGX := Lib.hid (grown_alloc HG2.out (.cells #[.int .i64 item, .int .i64 day, .int .i64 0, .int .i64 zw1, .int .i64 zw2] 33))
  have KRX := KR2.alloc (.cells #[.int .i64 item, .int .i64 day, .int .i64 0, .int .i64 zw1, .int .i64 zw2] 33)
  rw [← hwx] at KX HCX HGX KRX
  rw [← hwx, ← hsx]
  clear hwx HC HG2 KR2
  have HC := HCX
  clear HCX
  refine (AM.out k2 5 _ (some ⟨wx.heap.size, 0, none⟩) [0, 9, 99, 364, 4000] _ ((HC.out).alloc _) (by omega) rfl (by decide) (by decide) (rd_ints (w := wx) [0, 9, 99, 364, 4000] 3) (fun g o q e => by have := HC.out.lt; injection e with e; injection e with e; simp at *; omega)).mono ?_
  rintro e w3 ⟨vw3, k3, rfl, ⟨zw3, -, rfl⟩, hk3, hc, hg⟩
  have hp2 : p < wx.heap.size := HC.out.lt
  have hg1' := grown_trans (World.grownBy_alloc wx _ _) hg
  have KR3 := KRX.grown hg1' (by simp; omega)
  have KX3 := KX.grown hg1' (by simp; omega)
  clear KRX KX
  have HG3 := Lib.hid (grown_trans HGX.out hg1')
  clear HC
  have HC := Lib.hid hc
  clear hg hc hg1' HGX
  go_wp2_with fail
  refine (LE.out _ _ _).mono ?_
  rintro e w4 ⟨⟨L, rfl⟩, rfl⟩
  have x2 := KX3.cell 2 _ rfl
  have xf2 := KX3.fr 2 (by simp)
  go_wp2_with fail
  clear x2 xf2
  obtain ⟨ws, hws⟩ : ∃ ws, ws = (w3.setCell ⟨w2.heap.size, 2, none⟩ (.int .i64 L)) := ⟨_, rfl⟩
  have HCs := Lib.hid (HC.out.other (q := w2.heap.size) (i := 2) (by omega) (.int .i64 L))
  have HGs := Lib.hid (grown_other HG3.out (q := w2.heap.size) hsz2 2 (.int .i64 L))
  have KXs := KX3.set (i := 2) (by simp) (.int .i64 L)
  have KRs := KR3.other (g := w2.heap.size) (i := 2) (by omega) (.int .i64 L)
  rw [← hws] at HCs HGs KXs KRs
  rw [← hws]
  clear hws HC HG3 KX3 KR3
  have HC := HCs
  clear HCs
  refine (PK.out k3 120 _ HC.out (by omega) (by decide) (by decide)).mono ?_
  rintro e w6 ⟨vw6, k6, rfl, ⟨rw6, rfl, aw6, bw6⟩, hk6, hc, hg⟩
  have hps : p < ws.heap.size := HC.out.lt
  have KR6 := KRs.grown hg (by simp; omega)
  have KX6 := KXs.grown hg (by simp; omega)
  clear KRs KXs
  have HG6 := Lib.hid (grown_trans HGs.out hg)
  clear HC
  have HC := Lib.hid hc
  clear hg hc HGs
  have hxr2 : ¬ w2.heap.size = w.heap.size := by omega
  have hxr3 : ¬ w.heap.size = w2.heap.size := by omega
  by_cases h0 : rw6 = 0
  · subst h0
    have x2 := KX6.cell 2 _ rfl
    go_wp2_with fail
    refine (AM.out k6 3 _ (some ⟨w6.heap.size, 0, none⟩) [0, 999, 1000] _ ((HC.out).alloc _) (by omega) rfl (by decide) (by decide) (rd_ints (w := w6) [0, 999, 1000] 3) (fun g o q e => by have := HC.out.lt; injection e with e; injection e with e; simp at *; omega)).mono ?_
    rintro e w7 ⟨vw7, k7, rfl, ⟨zw7, -, rfl⟩, hk7, hc, hg⟩
    have hg1' := grown_trans (World.grownBy_alloc w6 _ _) hg
    have hr6 := KR6.lt
    have KR7 := KR6.grown hg1' (by simp; omega)
    have KX7 := KX6.grown hg1' (by simp; omega)
    have HG7 := Lib.hid (grown_trans HG6.out hg1')
    clear HC
    have HC := Lib.hid hc
    clear x2 hg hc hg1' HG6 KR6 KX6
    have x0 := KX7.cell 0 _ rfl
    have rr0 := KR7.cell 0 _ rfl
    have rf0 := KR7.fr 0 (by simp)
    have x1 := KX7.cell 1 _ rfl
    have rr1 := KR7.cell 1 _ rfl
    have rf1 := KR7.fr 1 (by simp)
    have x2 := KX7.cell 2 _ rfl
    have rr2 := KR7.cell 2 _ rfl
    have rf2 := KR7.fr 2 (by simp)
    have x3 := KX7.cell 3 _ rfl
    have rr3 := KR7.cell 3 _ rfl
    have rf3 := KR7.fr 3 (by simp)
    have x4 := KX7.cell 4 _ rfl
    have rr4 := KR7.cell 4 _ rfl
    have rf4 := KR7.fr 4 (by simp)
    have xf0 := KX7.fr 0 (by simp)
    have HKR := Lib.hid KR7
    have HKX := Lib.hid KX7
    clear KR7 KX7
    go_wp2
    have HL := Lib.hid HC.out.lt
    exact bodyPost_ret (v := .agg #[.int .i64 zw7, .int .i64 day, .int .i64 L, .int .i64 zw1, .int .i64 zw2]) (by simp [results, Tryd.results36, go_sem, rr0, rr1, rr2, rr3, rr4]) rfl ⟨_, k7, rfl, ⟨⟨_, _, _, _, _⟩, rfl⟩, by omega, ((((((HC.out.other (by omega) _).other (by omega) _).other (by omega) _).other (by omega) _).other (by omega) _).other (by omega) _), (grown_other (grown_other (grown_other (grown_other (grown_other (grown_other HG7.out (by omega) _ _) (by omega) _ _) (by omega) _ _) (by omega) _ _) (by omega) _ _) (by omega) _ _)⟩
  · by_cases h1 : rw6 = 1
    · subst h1
      have x2 := KX6.cell 2 _ rfl
      go_wp2_with fail
      refine (AM.out k6 2 _ (some ⟨w6.heap.size, 0, none⟩) [-1, wrap64 (L + 1)] _ ((HC.out).alloc _) (by omega) rfl (by decide) (by decide) (rd_ints (w := w6) [-1, wrap64 (L + 1)] 3) (fun g o q e => by have := HC.out.lt; injection e with e; injection e with e; simp at *; omega)).mono ?_
      rintro e w7 ⟨vw7, k7, rfl, ⟨zw7, -, rfl⟩, hk7, hc, hg⟩
      have hg1' := grown_trans (World.grownBy_alloc w6 _ _) hg
      have hr6 := KR6.lt
      have KR7 := KR6.grown hg1' (by simp; omega)
      have KX7 := KX6.grown hg1' (by simp; omega)
      have HG7 := Lib.hid (grown_trans HG6.out hg1')
      clear HC
      have HC := Lib.hid hc
      clear x2 hg hc hg1' HG6 KR6 KX6
      have x0 := KX7.cell 0 _ rfl
      have rr0 := KR7.cell 0 _ rfl
      have rf0 := KR7.fr 0 (by simp)
      have x1 := KX7.cell 1 _ rfl
      have rr1 := KR7.cell 1 _ rfl
      have rf1 := KR7.fr 1 (by simp)
      have x2 := KX7.cell 2 _ rfl
      have rr2 := KR7.cell 2 _ rfl
      have rf2 := KR7.fr 2 (by simp)
      have x3 := KX7.cell 3 _ rfl
      have rr3 := KR7.cell 3 _ rfl
      have rf3 := KR7.fr 3 (by simp)
      have x4 := KX7.cell 4 _ rfl
      have rr4 := KR7.cell 4 _ rfl
      have rf4 := KR7.fr 4 (by simp)
      have xf1 := KX7.fr 1 (by simp)
      have HKR := Lib.hid KR7
      have HKX := Lib.hid KX7
      clear KR7 KX7
      go_wp2
      have HL := Lib.hid HC.out.lt
      exact bodyPost_ret (v := .agg #[.int .i64 item, .int .i64 zw7, .int .i64 L, .int .i64 zw1, .int .i64 zw2]) (by simp [results, Tryd.results36, go_sem, rr0, rr1, rr2, rr3, rr4]) rfl ⟨_, k7, rfl, ⟨⟨_, _, _, _, _⟩, rfl⟩, by omega, ((((((HC.out.other (by omega) _).other (by omega) _).other (by omega) _).other (by omega) _).other (by omega) _).other (by omega) _), (grown_other (grown_other (grown_other (grown_other (grown_other (grown_other HG7.out (by omega) _ _) (by omega) _ _) (by omega) _ _) (by omega) _ _) (by omega) _ _) (by omega) _ _)⟩
    · by_cases h2 : rw6 = 2
      · subst h2
        have x0 := KX6.cell 0 _ rfl
        have rr0 := KR6.cell 0 _ rfl
        have rf0 := KR6.fr 0 (by simp)
        have x1 := KX6.cell 1 _ rfl
        have rr1 := KR6.cell 1 _ rfl
        have rf1 := KR6.fr 1 (by simp)
        have x2 := KX6.cell 2 _ rfl
        have rr2 := KR6.cell 2 _ rfl
        have rf2 := KR6.fr 2 (by simp)
        have x3 := KX6.cell 3 _ rfl
        have rr3 := KR6.cell 3 _ rfl
        have rf3 := KR6.fr 3 (by simp)
        have x4 := KX6.cell 4 _ rfl
        have rr4 := KR6.cell 4 _ rfl
        have rf4 := KR6.fr 4 (by simp)
        have xf2 := KX6.fr 2 (by simp)
        have HKR := Lib.hid KR6
        have HKX := Lib.hid KX6
        clear KR6 KX6
        go_wp2
        have HL := Lib.hid HC.out.lt
        exact bodyPost_ret (v := .agg #[.int .i64 item, .int .i64 day, .int .i64 4001, .int .i64 zw1, .int .i64 zw2]) (by simp [results, Tryd.results36, go_sem, rr0, rr1, rr2, rr3, rr4]) rfl ⟨_, k6, rfl, ⟨⟨_, _, _, _, _⟩, rfl⟩, by omega, ((((((HC.out.other (by omega) _).other (by omega) _).other (by omega) _).other (by omega) _).other (by omega) _).other (by omega) _), (grown_other (grown_other (grown_other (grown_other (grown_other (grown_other HG6.out (by omega) _ _) (by omega) _ _) (by omega) _ _) (by omega) _ _) (by omega) _ _) (by omega) _ _)⟩
      · by_cases h3 : rw6 = 3
        · subst h3
          have x2 := KX6.cell 2 _ rfl
          go_wp2_with fail
          refine (AM.out k6 2 _ (some ⟨w6.heap.size, 0, none⟩) [0, 10000001] _ ((HC.out).alloc _) (by omega) rfl (by decide) (by decide) (rd_ints (w := w6) [0, 10000001] 3) (fun g o q e => by have := HC.out.lt; injection e with e; injection e with e; simp at *; omega)).mono ?_
          rintro e w7 ⟨vw7, k7, rfl, ⟨zw7, -, rfl⟩, hk7, hc, hg⟩
          have hg1' := grown_trans (World.grownBy_alloc w6 _ _) hg
          have hr6 := KR6.lt
          have KR7 := KR6.grown hg1' (by simp; omega)
          have KX7 := KX6.grown hg1' (by simp; omega)
          have HG7 := Lib.hid (grown_trans HG6.out hg1')
          clear HC
          have HC := Lib.hid hc
          clear x2 hg hc hg1' HG6 KR6 KX6
          have x0 := KX7.cell 0 _ rfl
          have rr0 := KR7.cell 0 _ rfl
          have rf0 := KR7.fr 0 (by simp)
          have x1 := KX7.cell 1 _ rfl
          have rr1 := KR7.cell 1 _ rfl
          have rf1 := KR7.fr 1 (by simp)
          have x2 := KX7.cell 2 _ rfl
          have rr2 := KR7.cell 2 _ rfl
          have rf2 := KR7.fr 2 (by simp)
          have x3 := KX7.cell 3 _ rfl
          have rr3 := KR7.cell 3 _ rfl
          have rf3 := KR7.fr 3 (by simp)
          have x4 := KX7.cell 4 _ rfl
          have rr4 := KR7.cell 4 _ rfl
          have rf4 := KR7.fr 4 (by simp)
          have xf3 := KX7.fr 3 (by simp)
          have HKR := Lib.hid KR7
          have HKX := Lib.hid KX7
          clear KR7 KX7
          go_wp2
          have HL := Lib.hid HC.out.lt
          exact bodyPost_ret (v := .agg #[.int .i64 item, .int .i64 day, .int .i64 L, .int .i64 zw7, .int .i64 zw2]) (by simp [results, Tryd.results36, go_sem, rr0, rr1, rr2, rr3, rr4]) rfl ⟨_, k7, rfl, ⟨⟨_, _, _, _, _⟩, rfl⟩, by omega, ((((((HC.out.other (by omega) _).other (by omega) _).other (by omega) _).other (by omega) _).other (by omega) _).other (by omega) _), (grown_other (grown_other (grown_other (grown_other (grown_other (grown_other HG7.out (by omega) _ _) (by omega) _ _) (by omega) _ _) (by omega) _ _) (by omega) _ _) (by omega) _ _)⟩
        · by_cases h4 : rw6 = 4
          · subst h4
            have x2 := KX6.cell 2 _ rfl
            go_wp2_with fail
            refine (AM.out k6 2 _ (some ⟨w6.heap.size, 0, none⟩) [0, 501] _ ((HC.out).alloc _) (by omega) rfl (by decide) (by decide) (rd_ints (w := w6) [0, 501] 3) (fun g o q e => by have := HC.out.lt; injection e with e; injection e with e; simp at *; omega)).mono ?_
            rintro e w7 ⟨vw7, k7, rfl, ⟨zw7, -, rfl⟩, hk7, hc, hg⟩
            have hg1' := grown_trans (World.grownBy_alloc w6 _ _) hg
            have hr6 := KR6.lt
            have KR7 := KR6.grown hg1' (by simp; omega)
            have KX7 := KX6.grown hg1' (by simp; omega)
            have HG7 := Lib.hid (grown_trans HG6.out hg1')
            clear HC
            have HC := Lib.hid hc
            clear x2 hg hc hg1' HG6 KR6 KX6
            have x0 := KX7.cell 0 _ rfl
            have rr0 := KR7.cell 0 _ rfl
            have rf0 := KR7.fr 0 (by simp)
            have x1 := KX7.cell 1 _ rfl
            have rr1 := KR7.cell 1 _ rfl
            have rf1 := KR7.fr 1 (by simp)
            have x2 := KX7.cell 2 _ rfl
            have rr2 := KR7.cell 2 _ rfl
            have rf2 := KR7.fr 2 (by simp)
            have x3 := KX7.cell 3 _ rfl
            have rr3 := KR7.cell 3 _ rfl
            have rf3 := KR7.fr 3 (by simp)
            have x4 := KX7.cell 4 _ rfl
            have rr4 := KR7.cell 4 _ rfl
            have rf4 := KR7.fr 4 (by simp)
            have xf4 := KX7.fr 4 (by simp)
            have HKR := Lib.hid KR7
            have HKX := Lib.hid KX7
            clear KR7 KX7
            go_wp2
            have HL := Lib.hid HC.out.lt
            exact bodyPost_ret (v := .agg #[.int .i64 item, .int .i64 day, .int .i64 L, .int .i64 zw1, .int .i64 zw7]) (by simp [results, Tryd.results36, go_sem, rr0, rr1, rr2, rr3, rr4]) rfl ⟨_, k7, rfl, ⟨⟨_, _, _, _, _⟩, rfl⟩, by omega, ((((((HC.out.other (by omega) _).other (by omega) _).other (by omega) _).other (by omega) _).other (by omega) _).other (by omega) _), (grown_other (grown_other (grown_other (grown_other (grown_other (grown_other HG7.out (by omega) _ _) (by omega) _ _) (by omega) _ _) (by omega) _ _) (by omega) _ _) (by omega) _ _)⟩
          · have d0 : (rw6 == 0) = false := by simp [h0]
            have d1 : (rw6 == 1) = false := by simp [h1]
            have d2 : (rw6 == 2) = false := by simp [h2]
            have d3 : (rw6 == 3) = false := by simp [h3]
            have d4 : (rw6 == 4) = false := by simp [h4]
            have x0 := KX6.cell 0 _ rfl
            have rr0 := KR6.cell 0 _ rfl
            have rf0 := KR6.fr 0 (by simp)
            have x1 := KX6.cell 1 _ rfl
            have rr1 := KR6.cell 1 _ rfl
            have rf1 := KR6.fr 1 (by simp)
            have x2 := KX6.cell 2 _ rfl
            have rr2 := KR6.cell 2 _ rfl
            have rf2 := KR6.fr 2 (by simp)
            have x3 := KX6.cell 3 _ rfl
            have rr3 := KR6.cell 3 _ rfl
            have rf3 := KR6.fr 3 (by simp)
            have x4 := KX6.cell 4 _ rfl
            have rr4 := KR6.cell 4 _ rfl
            have rf4 := KR6.fr 4 (by simp)
            have HKR := Lib.hid KR6
            have HKX := Lib.hid KX6
            clear KR6 KX6
            go_wp2
            have HL := Lib.hid HC.out.lt
            exact bodyPost_ret (v := .agg #[.int .i64 item, .int .i64 day, .int .i64 L, .int .i64 zw1, .int .i64 zw2]) (by simp [results, Tryd.results36, go_sem, rr0, rr1, rr2, rr3, rr4]) rfl ⟨_, k6, rfl, ⟨⟨_, _, _, _, _⟩, rfl⟩, by omega, (((((HC.out.other (by omega) _).other (by omega) _).other (by omega) _).other (by omega) _).other (by omega) _), (grown_other (grown_other (grown_other (grown_other (grown_other HG6.out (by omega) _ _) (by omega) _ _) (by omega) _ _) (by omega) _ _) (by omega) _ _)⟩

end Go.Proofs.YtiafiehglfmjaaaDoor
