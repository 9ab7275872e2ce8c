/- What the cursor draws of insurances: a worth, an item, a day. -/
import Derived.Test.YtiafiehglfmjaaaDoorCurI
namespace Go.Proofs.YtiafiehglfmjaaaDoor
set_option linter.unusedVariables false
set_option linter.unusedSimpArgs false
open Go.RowKit


set_option maxRecDepth 20000 in
set_option maxHeartbeats 4000000 in
theorem item26_any (p k : Nat) (u : Cu) (w : World) (A : Option Addr) (n c : Nat) (xs : List R5) (hn : xs.length = n) (hx : n ≤ 22) (hA : Rd w A (cells5 xs)) (hf : ∀ g o q, A = some ⟨g, o, q⟩ → g ≠ p) (h : CurB w p u k) (hk : k ≤ 800000) :
    Calls Tryd.prog 22 #[.pointer (some ⟨p, 0, none⟩), .slice A n c] w (RetC p u k 6 IntV w) := by
  have AM := Lib.hid (fun k n c A zs w h hk hz hn hn2 hA hf => among_any p k n c u A zs w h hk hz hn hn2 hA hf)
  have PK := Lib.hid (fun k m w h hk hm hm2 => pick_any p k m u w h hk hm hm2)
  have ON := Lib.hid (fun k m w h hk hm hm2 => one_any p k m u w h hk hm hm2)
  have HC := Lib.hid h
  have HA := Lib.hid hA
  have HF := Lib.hid hf
  have HN := Lib.hid hn
  clear h hA hf hn
  by_cases h0 : n = 0
  · subst h0
    go_enter Tryd.func22, Tryd.ntmps22
    go_wp2_with fail
    have hpn : p < w.heap.size := HC.out.lt
    refine (PK.out k 24 _ (HC.out.alloc _) (by omega) (by decide) (by decide)).mono ?_
    rintro e w8 ⟨v8, k8, rfl, ⟨r8, rfl, a8, b8⟩, hk8, hc8, hg8⟩
    have RL := Lib.hid (Rd.grown hg8 (rd_ints (w := w) [1, 5, 999, 0, 1000] 3) (fun g o q e => by injection e with e; injection e with e; simp; omega))
    have HC8 := Lib.hid hc8
    have HG8 := Lib.hid (grown_trans (grown_trans (grown_refl w _) (World.grownBy_alloc w _ _)) hg8)
    have hs8 : w.heap.size < w8.heap.size := by have := hg8.size; simp at this; omega
    clear hc8 hg8
    have hw0 : IntKind.i64.wrap (r8 / 11) = r8 / 11 := IntWalk.i64_in _ (by omega)
    have hq : r8 / 11 = 0 ∨ r8 / 11 = 1 ∨ r8 / 11 = 2 := by omega
    rcases hq with hq | hq | hq
    · have RM := Lib.hid (Rd.prefix_ (cs := cells1 [1, 5, 999]) (ds := cells1 [0, 1000]) RL.out)
      go_wp2_with fail
      refine (AM.out k8 3 _ (some ⟨w.heap.size, 0, none⟩) [1, 5, 999] _ HC8.out (by omega) rfl (by decide) (by decide) RM.out (fun g o q e => by injection e with e; injection e with e; omega)).mono ?_
      rintro e w9 ⟨v9, k9, rfl, ⟨z9, -, rfl⟩, hk9, hc9, hg9⟩
      go_wp2
      go_ret
      exact ⟨_, k9, rfl, ⟨_, rfl⟩, by omega, hc9, grown_trans HG8.out hg9⟩
    · have RM := Lib.hid (Rd.prefix_ (cs := cells1 [1, 5, 999, 0]) (ds := cells1 [1000]) RL.out)
      go_wp2_with fail
      refine (AM.out k8 4 _ (some ⟨w.heap.size, 0, none⟩) [1, 5, 999, 0] _ HC8.out (by omega) rfl (by decide) (by decide) RM.out (fun g o q e => by injection e with e; injection e with e; omega)).mono ?_
      rintro e w9 ⟨v9, k9, rfl, ⟨z9, -, rfl⟩, hk9, hc9, hg9⟩
      go_wp2
      go_ret
      exact ⟨_, k9, rfl, ⟨_, rfl⟩, by omega, hc9, grown_trans HG8.out hg9⟩
    · have RM := Lib.hid (Rd.prefix_ (cs := cells1 [1, 5, 999, 0, 1000]) (ds := cells1 []) RL.out)
      go_wp2_with fail
      refine (AM.out k8 5 _ (some ⟨w.heap.size, 0, none⟩) [1, 5, 999, 0, 1000] _ HC8.out (by omega) rfl (by decide) (by decide) RM.out (fun g o q e => by injection e with e; injection e with e; omega)).mono ?_
      rintro e w9 ⟨v9, k9, rfl, ⟨z9, -, rfl⟩, hk9, hc9, hg9⟩
      go_wp2
      go_ret
      exact ⟨_, k9, rfl, ⟨_, rfl⟩, by omega, hc9, grown_trans HG8.out hg9⟩
  · have h0d : (n == 0) = false := by simp [h0]
    have h0e : ((n : Int) == 0) = false := by simp [h0]
    have hn1 : 1 ≤ n := by omega
    go_enter Tryd.func22, Tryd.ntmps22
    go_wp2_with fail
    refine (ON.out k 8 _ HC.out (by omega) (by decide) (by decide)).mono ?_
    rintro e w1 ⟨v1, k1, rfl, ⟨b1, rfl⟩, hk1, hc1, hg1⟩
    have HR1 := Lib.hid (Rd.grown hg1 HA.out (fun g o q e => by have := HF.out g o q e; simpa using this))
    have HG1 := Lib.hid hg1
    clear HC
    have HC := Lib.hid hc1
    clear hc1 hg1
    cases b1 with
    | true =>
      go_wp2_with fail
      have hpn : p < w1.heap.size := HC.out.lt
      refine (PK.out k1 24 _ (HC.out.alloc _) (by omega) (by decide) (by decide)).mono ?_
      rintro e w8 ⟨v8, k8, rfl, ⟨r8, rfl, a8, b8⟩, hk8, hc8, hg8⟩
      have RL := Lib.hid (Rd.grown hg8 (rd_ints (w := w1) [1, 5, 999, 0, 1000] 3) (fun g o q e => by injection e with e; injection e with e; simp; omega))
      have HC8 := Lib.hid hc8
      have HG8 := Lib.hid (grown_trans (grown_trans (HG1.out) (World.grownBy_alloc w1 _ _)) hg8)
      have hs8 : w1.heap.size < w8.heap.size := by have := hg8.size; simp at this; omega
      clear hc8 hg8
      have hw0 : IntKind.i64.wrap (r8 / 11) = r8 / 11 := IntWalk.i64_in _ (by omega)
      have hq : r8 / 11 = 0 ∨ r8 / 11 = 1 ∨ r8 / 11 = 2 := by omega
      rcases hq with hq | hq | hq
      · have RM := Lib.hid (Rd.prefix_ (cs := cells1 [1, 5, 999]) (ds := cells1 [0, 1000]) RL.out)
        go_wp2_with fail
        refine (AM.out k8 3 _ (some ⟨w1.heap.size, 0, none⟩) [1, 5, 999] _ HC8.out (by omega) rfl (by decide) (by decide) RM.out (fun g o q e => by injection e with e; injection e with e; omega)).mono ?_
        rintro e w9 ⟨v9, k9, rfl, ⟨z9, -, rfl⟩, hk9, hc9, hg9⟩
        go_wp2
        go_ret
        exact ⟨_, k9, rfl, ⟨_, rfl⟩, by omega, hc9, grown_trans HG8.out hg9⟩
      · have RM := Lib.hid (Rd.prefix_ (cs := cells1 [1, 5, 999, 0]) (ds := cells1 [1000]) RL.out)
        go_wp2_with fail
        refine (AM.out k8 4 _ (some ⟨w1.heap.size, 0, none⟩) [1, 5, 999, 0] _ HC8.out (by omega) rfl (by decide) (by decide) RM.out (fun g o q e => by injection e with e; injection e with e; omega)).mono ?_
        rintro e w9 ⟨v9, k9, rfl, ⟨z9, -, rfl⟩, hk9, hc9, hg9⟩
        go_wp2
        go_ret
        exact ⟨_, k9, rfl, ⟨_, rfl⟩, by omega, hc9, grown_trans HG8.out hg9⟩
      · have RM := Lib.hid (Rd.prefix_ (cs := cells1 [1, 5, 999, 0, 1000]) (ds := cells1 []) RL.out)
        go_wp2_with fail
        refine (AM.out k8 5 _ (some ⟨w1.heap.size, 0, none⟩) [1, 5, 999, 0, 1000] _ HC8.out (by omega) rfl (by decide) (by decide) RM.out (fun g o q e => by injection e with e; injection e with e; omega)).mono ?_
        rintro e w9 ⟨v9, k9, rfl, ⟨z9, -, rfl⟩, hk9, hc9, hg9⟩
        go_wp2
        go_ret
        exact ⟨_, k9, rfl, ⟨_, rfl⟩, by omega, hc9, grown_trans HG8.out hg9⟩
    | false =>
      go_wp2_with fail
      refine (PK.out k1 n _ HC.out (by omega) hn1 (by omega)).mono ?_
      rintro e w2 ⟨v2, k2, rfl, ⟨r2, rfl, a2, b2⟩, hk2, hc2, hg2⟩
      obtain ⟨j, rfl⟩ : ∃ j : Nat, r2 = j := ⟨r2.toNat, by omega⟩
      have hj : j < n := by omega
      obtain ⟨x, hxj⟩ : ∃ x, xs[j]? = some x := ⟨xs[j]'(by have := HN.out; omega), List.getElem?_eq_getElem _⟩
      obtain ⟨g, o, hAe, hg, c0, c1, c2, c3, c4⟩ := (Rd.grown hg2 HR1.out (fun g o q e => by have := HF.out g o q e; simpa using this)).at5 hxj
      subst hAe
      have hj0 : (0 : Int) ≤ (j : Int) := by omega
      have hjn : (j : Int) < (n : Int) := by omega
      have HC2 := Lib.hid hc2
      have HG2 := Lib.hid (grown_trans HG1.out hg2)
      clear hxj hc2 hg2 a2 b2
      go_wp2
      go_ret
      exact ⟨_, k2, rfl, ⟨_, rfl⟩, by omega, HC2.out, HG2.out⟩

set_option maxRecDepth 20000 in
set_option maxHeartbeats 4000000 in
theorem day26_any (p k : Nat) (u : Cu) (w : World) (A : Option Addr) (n c : Nat) (xs : List R5) (hn : xs.length = n) (hx : n ≤ 22) (hA : Rd w A (cells5 xs)) (hf : ∀ g o q, A = some ⟨g, o, q⟩ → g ≠ p) (h : CurB w p u k) (hk : k ≤ 800000) :
    Calls Tryd.prog 32 #[.pointer (some ⟨p, 0, none⟩), .slice A n c] w (RetC p u k 6 IntV w) := by
  have AM := Lib.hid (fun k n c A zs w h hk hz hn hn2 hA hf => among_any p k n c u A zs w h hk hz hn hn2 hA hf)
  have PK := Lib.hid (fun k m w h hk hm hm2 => pick_any p k m u w h hk hm hm2)
  have ON := Lib.hid (fun k m w h hk hm hm2 => one_any p k m u w h hk hm hm2)
  have LE := Lib.hid (fun a b w => l1LeastE a b w)
  have MO := Lib.hid (fun a b w => l1MostE a b w)
  have HC := Lib.hid h
  have HA := Lib.hid hA
  have HF := Lib.hid hf
  have HN := Lib.hid hn
  clear h hA hf hn
  by_cases h0 : n = 0
  · subst h0
    go_enter Tryd.func32, Tryd.ntmps32
    go_wp2_with fail
    have hpn : p < w.heap.size := HC.out.lt
    refine (PK.out k 24 _ (HC.out.alloc _) (by omega) (by decide) (by decide)).mono ?_
    rintro e w8 ⟨v8, k8, rfl, ⟨r8, rfl, a8, b8⟩, hk8, hc8, hg8⟩
    have RL := Lib.hid (Rd.grown hg8 (rd_ints (w := w) [0, 77, 4000, -1, 4001] 3) (fun g o q e => by injection e with e; injection e with e; simp; omega))
    have HC8 := Lib.hid hc8
    have HG8 := Lib.hid (grown_trans (grown_trans (grown_refl w _) (World.grownBy_alloc w _ _)) hg8)
    have hs8 : w.heap.size < w8.heap.size := by have := hg8.size; simp at this; omega
    clear hc8 hg8
    have hw0 : IntKind.i64.wrap (r8 / 11) = r8 / 11 := IntWalk.i64_in _ (by omega)
    have hq : r8 / 11 = 0 ∨ r8 / 11 = 1 ∨ r8 / 11 = 2 := by omega
    rcases hq with hq | hq | hq
    · have RM := Lib.hid (Rd.prefix_ (cs := cells1 [0, 77, 4000]) (ds := cells1 [-1, 4001]) RL.out)
      go_wp2_with fail
      refine (AM.out k8 3 _ (some ⟨w.heap.size, 0, none⟩) [0, 77, 4000] _ HC8.out (by omega) rfl (by decide) (by decide) RM.out (fun g o q e => by injection e with e; injection e with e; omega)).mono ?_
      rintro e w9 ⟨v9, k9, rfl, ⟨z9, -, rfl⟩, hk9, hc9, hg9⟩
      go_wp2
      go_ret
      exact ⟨_, k9, rfl, ⟨_, rfl⟩, by omega, hc9, grown_trans HG8.out hg9⟩
    · have RM := Lib.hid (Rd.prefix_ (cs := cells1 [0, 77, 4000, -1]) (ds := cells1 [4001]) RL.out)
      go_wp2_with fail
      refine (AM.out k8 4 _ (some ⟨w.heap.size, 0, none⟩) [0, 77, 4000, -1] _ HC8.out (by omega) rfl (by decide) (by decide) RM.out (fun g o q e => by injection e with e; injection e with e; omega)).mono ?_
      rintro e w9 ⟨v9, k9, rfl, ⟨z9, -, rfl⟩, hk9, hc9, hg9⟩
      go_wp2
      go_ret
      exact ⟨_, k9, rfl, ⟨_, rfl⟩, by omega, hc9, grown_trans HG8.out hg9⟩
    · have RM := Lib.hid (Rd.prefix_ (cs := cells1 [0, 77, 4000, -1, 4001]) (ds := cells1 []) RL.out)
      go_wp2_with fail
      refine (AM.out k8 5 _ (some ⟨w.heap.size, 0, none⟩) [0, 77, 4000, -1, 4001] _ HC8.out (by omega) rfl (by decide) (by decide) RM.out (fun g o q e => by injection e with e; injection e with e; omega)).mono ?_
      rintro e w9 ⟨v9, k9, rfl, ⟨z9, -, rfl⟩, hk9, hc9, hg9⟩
      go_wp2
      go_ret
      exact ⟨_, k9, rfl, ⟨_, rfl⟩, by omega, hc9, grown_trans HG8.out hg9⟩
  · have h0d : (n == 0) = false := by simp [h0]
    have h0e : ((n : Int) == 0) = false := by simp [h0]
    have hn1 : 1 ≤ n := by omega
    go_enter Tryd.func32, Tryd.ntmps32
    go_wp2_with fail
    refine (ON.out k 6 _ HC.out (by omega) (by decide) (by decide)).mono ?_
    rintro e w1 ⟨v1, k1, rfl, ⟨b1, rfl⟩, hk1, hc1, hg1⟩
    have HR1 := Lib.hid (Rd.grown hg1 HA.out (fun g o q e => by have := HF.out g o q e; simpa using this))
    have HG1 := Lib.hid hg1
    clear HC
    have HC := Lib.hid hc1
    clear hc1 hg1
    cases b1 with
    | true =>
      go_wp2_with fail
      have hpn : p < w1.heap.size := HC.out.lt
      refine (PK.out k1 24 _ (HC.out.alloc _) (by omega) (by decide) (by decide)).mono ?_
      rintro e w8 ⟨v8, k8, rfl, ⟨r8, rfl, a8, b8⟩, hk8, hc8, hg8⟩
      have RL := Lib.hid (Rd.grown hg8 (rd_ints (w := w1) [0, 77, 4000, -1, 4001] 3) (fun g o q e => by injection e with e; injection e with e; simp; omega))
      have HC8 := Lib.hid hc8
      have HG8 := Lib.hid (grown_trans (grown_trans (HG1.out) (World.grownBy_alloc w1 _ _)) hg8)
      have hs8 : w1.heap.size < w8.heap.size := by have := hg8.size; simp at this; omega
      clear hc8 hg8
      have hw0 : IntKind.i64.wrap (r8 / 11) = r8 / 11 := IntWalk.i64_in _ (by omega)
      have hq : r8 / 11 = 0 ∨ r8 / 11 = 1 ∨ r8 / 11 = 2 := by omega
      rcases hq with hq | hq | hq
      · have RM := Lib.hid (Rd.prefix_ (cs := cells1 [0, 77, 4000]) (ds := cells1 [-1, 4001]) RL.out)
        go_wp2_with fail
        refine (AM.out k8 3 _ (some ⟨w1.heap.size, 0, none⟩) [0, 77, 4000] _ HC8.out (by omega) rfl (by decide) (by decide) RM.out (fun g o q e => by injection e with e; injection e with e; omega)).mono ?_
        rintro e w9 ⟨v9, k9, rfl, ⟨z9, -, rfl⟩, hk9, hc9, hg9⟩
        go_wp2
        go_ret
        exact ⟨_, k9, rfl, ⟨_, rfl⟩, by omega, hc9, grown_trans HG8.out hg9⟩
      · have RM := Lib.hid (Rd.prefix_ (cs := cells1 [0, 77, 4000, -1]) (ds := cells1 [4001]) RL.out)
        go_wp2_with fail
        refine (AM.out k8 4 _ (some ⟨w1.heap.size, 0, none⟩) [0, 77, 4000, -1] _ HC8.out (by omega) rfl (by decide) (by decide) RM.out (fun g o q e => by injection e with e; injection e with e; omega)).mono ?_
        rintro e w9 ⟨v9, k9, rfl, ⟨z9, -, rfl⟩, hk9, hc9, hg9⟩
        go_wp2
        go_ret
        exact ⟨_, k9, rfl, ⟨_, rfl⟩, by omega, hc9, grown_trans HG8.out hg9⟩
      · have RM := Lib.hid (Rd.prefix_ (cs := cells1 [0, 77, 4000, -1, 4001]) (ds := cells1 []) RL.out)
        go_wp2_with fail
        refine (AM.out k8 5 _ (some ⟨w1.heap.size, 0, none⟩) [0, 77, 4000, -1, 4001] _ HC8.out (by omega) rfl (by decide) (by decide) RM.out (fun g o q e => by injection e with e; injection e with e; omega)).mono ?_
        rintro e w9 ⟨v9, k9, rfl, ⟨z9, -, rfl⟩, hk9, hc9, hg9⟩
        go_wp2
        go_ret
        exact ⟨_, k9, rfl, ⟨_, rfl⟩, by omega, hc9, grown_trans HG8.out hg9⟩
    | false =>
      go_wp2_with fail
      refine (PK.out k1 n _ HC.out (by omega) hn1 (by omega)).mono ?_
      rintro e w2 ⟨v2, k2, rfl, ⟨r2, rfl, a2, b2⟩, hk2, hc2, hg2⟩
      obtain ⟨j, rfl⟩ : ∃ j : Nat, r2 = j := ⟨r2.toNat, by omega⟩
      have hj : j < n := by omega
      obtain ⟨x, hxj⟩ : ∃ x, xs[j]? = some x := ⟨xs[j]'(by have := HN.out; omega), List.getElem?_eq_getElem _⟩
      obtain ⟨g, o, hAe, hg, c0, c1, c2, c3, c4⟩ := (Rd.grown hg2 HR1.out (fun g o q e => by have := HF.out g o q e; simpa using this)).at5 hxj
      subst hAe
      have hj0 : (0 : Int) ≤ (j : Int) := by omega
      have hjn : (j : Int) < (n : Int) := by omega
      have HC2 := Lib.hid hc2
      have HG2 := Lib.hid (grown_trans HG1.out hg2)
      clear hxj hc2 hg2 a2 b2
      go_wp2_with fail
      clear c0 c1 c2 c3 c4
      obtain ⟨wx, hwx⟩ : ∃ wx, wx = (w2.alloc (.cells #[.int .i64 x.a, .int .i64 x.b, .int .i64 x.c, .int .i64 x.d, .int .i64 x.e] 33)) := ⟨_, rfl⟩
      have hsx : wx.heap.size = w2.heap.size + 1 := by rw [hwx]; simp
      have HCX := Lib.hid (HC2.out.alloc (.cells #[.int .i64 x.a, .int .i64 x.b, .int .i64 x.c, .int .i64 x.d, .int .i64 x.e] 33))
      have HGX := Lib.hid (grown_alloc HG2.out (.cells #[.int .i64 x.a, .int .i64 x.b, .int .i64 x.c, .int .i64 x.d, .int .i64 x.e] 33))
      rw [← hwx] at HCX HGX
      rw [← hwx, ← hsx]
      clear hwx HC
      have HC := HCX
      clear HCX
      refine (AM.out k2 4 _ (some ⟨wx.heap.size, 0, none⟩) [x.b, wrap64 (x.b - 1), x.c, wrap64 (x.c + 1)] _ ((HC.out).alloc _) (by omega) rfl (by decide) (by decide) (rd_ints (w := wx) [x.b, wrap64 (x.b - 1), x.c, wrap64 (x.c + 1)] 3) (fun g o q e => by have := HC.out.lt; injection e with e; injection e with e; simp at *; omega)).mono ?_
      rintro e w3 ⟨vw3, k3, rfl, ⟨zw3, -, rfl⟩, hk3, hc, hg⟩
      have HC3 := Lib.hid hc
      have HG3 := Lib.hid (grown_trans (grown_alloc HGX.out _) hg)
      clear hc hg
      go_wp2_with fail
      refine (MO.out _ _ _).mono ?_
      rintro e w4 ⟨⟨L, rfl⟩, rfl⟩
      go_wp2_with fail
      refine (LE.out _ _ _).mono ?_
      rintro e w5 ⟨⟨L2, rfl⟩, rfl⟩
      go_wp2
      go_ret
      exact ⟨_, k3, rfl, ⟨_, rfl⟩, by omega, HC3.out, HG3.out⟩

end Go.Proofs.YtiafiehglfmjaaaDoor
