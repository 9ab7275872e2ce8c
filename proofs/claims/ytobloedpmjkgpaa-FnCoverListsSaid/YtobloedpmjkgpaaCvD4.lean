/- What the cursor draws: covers. -/
import Derived.Test.YtobloedpmjkgpaaCvL
import Derived.Test.YtobloedpmjkgpaaCvD3
namespace Go.Proofs.Ytobloedpmjkgpaa
set_option linter.unusedVariables false
set_option linter.unusedSimpArgs false
open Go.RowKit

set_option maxRecDepth 20000 in
set_option maxHeartbeats 8000000 in
theorem covers_any (p k : Nat) (u : Cu) (w : World) (h : CurB w p u k) (hk : k ≤ 600000) :
    Calls Try.prog 20 #[.pointer (some ⟨p, 0, none⟩)] w (RetCL9 42 11 p u k 400 w) := by
  have PK := Lib.hid (fun k m w h hk hm hm2 => pick_any p k m u w h hk hm hm2)
  have ON := Lib.hid (fun k m w h hk hm hm2 => one_any p k m u w h hk hm hm2)
  have AM := Lib.hid (fun k n c A zs w h hk hz hn hn2 hA hf => among_any p k n c u A zs w h hk hz hn hn2 hA hf)
  have CV := Lib.hid (fun k a w h hk => cover_any p k u a w h hk)
  have HC := Lib.hid h
  have hp := h.lt
  clear h
  go_enter Try.func20, Try.ntmps20
  go_wp2_with fail
  have HL0 : Hid (LRel9 w 42 p u [] (.slice (some ⟨w.heap.size, 0, none⟩) 0 0) k (w.alloc (.cells #[] 42))) := Lib.hid ⟨own_empty w _ _ _ (Nat.le_refl _), HC.out.alloc _, World.grownBy_alloc w _ _⟩
  clear HC
  go_loopw [3, 4] (fun v i wr => ∃ (j : Nat) (xs : List R9) (kk : Nat), i = .int .i64 j ∧ 1 ≤ j ∧ j ≤ 6 ∧ xs.length + 1 ≤ j ∧ kk + 40 ≤ k + 40 * j ∧ LRel9 w 42 p u xs v kk wr) (fun _ i _ => 10 - (intOf i).toNat)
  case atStart => exact ⟨1, [], k, rfl, by omega, by omega, by simp, by omega, HL0.out⟩
  case round =>
    clear HL0
    obtain ⟨wO, hwO⟩ : ∃ x, x = wr := ⟨wr, rfl⟩
    subst hwO
    obtain ⟨j, xs, kk, rfl, hj1, hj, hx9, hkk, hL⟩ := hrel
    obtain ⟨A, c, rfl⟩ := own_form hL.own
    have HL := Lib.hid hL
    clear hL
    by_cases hj6 : j < 6
    · have hj6' : (j : Int) < 6 := by omega
      go_wp2_with fail
      refine (ON.out kk 3 _ HL.out.cur (by omega) (by decide) (by decide)).mono ?_
      rintro e w2 ⟨vw2, k2, rfl, ⟨bw2, rfl⟩, hk2, hc, hg⟩
      have HL2 := Lib.hid (HL.out.call hp hc hg)
      clear hc hg HL
      cases bw2 with
      | true =>
        go_wp2
        go_roundw
        case rel => exact ⟨j + 1, xs, k2, by go_num, by omega, by omega, by omega, by omega, HL2.out⟩
        case measure => simp [intOf]; omega
      | false =>
        have hwm : IntKind.i64.wrap (13 * (j : Int)) = 13 * (j : Int) := IntWalk.i64_in _ (by omega)
        go_wp2_with fail
        refine (CV.out k2 _ _ HL2.out.cur (by omega)).mono ?_
        rintro e w3 ⟨vw3, k3, rfl, ⟨xw3, rfl⟩, hk3, hc, hg⟩
        have HL3 := Lib.hid (HL2.out.call hp hc hg)
        clear hc hg HL2
        have HO := Lib.hid ((HL3.out.below ((Below.refl _ _).alloc (Nat.le_refl _) (.cells #[.int .i64 xw3.a, .int .i64 xw3.b, .int .i64 xw3.c, .int .i64 xw3.d, .int .i64 xw3.e, .int .i64 xw3.f, .int .i64 xw3.g, .int .i64 xw3.h, .int .i64 xw3.i] 42))).own)
        have HX : Hid (Rd (w3.alloc (.cells #[.int .i64 xw3.a, .int .i64 xw3.b, .int .i64 xw3.c, .int .i64 xw3.d, .int .i64 xw3.e, .int .i64 xw3.f, .int .i64 xw3.g, .int .i64 xw3.h, .int .i64 xw3.i] 42)) (some ⟨w3.heap.size, 0, none⟩) xw3.cells) := Lib.hid (rd_new #[.int .i64 xw3.a, .int .i64 xw3.b, .int .i64 xw3.c, .int .i64 xw3.d, .int .i64 xw3.e, .int .i64 xw3.f, .int .i64 xw3.g, .int .i64 xw3.h, .int .i64 xw3.i] 42 rfl)
        have hbs : w.heap.size ≤ (w3.alloc (.cells #[.int .i64 xw3.a, .int .i64 xw3.b, .int .i64 xw3.c, .int .i64 xw3.d, .int .i64 xw3.e, .int .i64 xw3.f, .int .i64 xw3.g, .int .i64 xw3.h, .int .i64 xw3.i] 42)).heap.size := by have := HL3.out.sz; simp; omega
        go_wp2_with (at_builtin; go_must (refine wpList_app _ rfl (.tmp 13) (.tmp 18) 26 rfl w.heap.size 42 _ 9 72 Try.underlying26 info42 rfl (by omega) _ _ _ rfl HO.out _ 1 1 xw3.cells rfl rfl HX.out (oneCell_9 xw3) (by unfold maxLen; omega) (by omega) hbs ?_); intro v6 w6 o6 g6 d6; refine Hid.out ?_)
        have HLf := Lib.hid (HL3.out.push (x := xw3) hp ((Below.refl _ _).alloc (Nat.le_refl _) _) o6 g6)
        clear o6 g6 d6 HO HX hbs
        refine Lib.hid ?_
        go_wp2
        go_roundw
        case rel => exact ⟨j + 1, _, k3, by go_num, by omega, by omega, by simp; omega, by omega, HLf.out⟩
        case measure => simp [intOf]; omega
    · obtain rfl : j = 6 := by omega
      rw [show ((6 : Nat) : Int) = 6 from rfl]
      go_wp2_with fail
      refine (PK.out kk 32 _ HL.out.cur (by omega) (by decide) (by decide)).mono ?_
      rintro e w2 ⟨vw2, k2, rfl, ⟨rw2, rfl, aw2, bw2⟩, hk2, hc, hg⟩
      have HL2 := Lib.hid (HL.out.call hp hc hg)
      clear hc hg HL
      by_cases h0 : rw2 = 0
      · subst h0
        go_wp2_with fail
        refine (AM.out k2 4 _ (some ⟨w2.heap.size, 0, none⟩) [0, 13, 999, 1000] _ (HL2.out.cur.alloc _) (by omega) rfl (by decide) (by decide) (rd_ints (w := w2) [0, 13, 999, 1000] 3) (fun g o q e => by have := HL2.out.cur.lt; injection e with e; injection e with e; omega)).mono ?_
        rintro e w3 ⟨vw3, k3, rfl, ⟨zw3, -, rfl⟩, hk3, hc, hg⟩
        have HL3 := Lib.hid ((HL2.out.below ((Below.refl _ _).alloc (Nat.le_refl _) _)).call hp hc hg)
        clear hc hg HL2
        go_wp2_with fail
        refine (CV.out k3 _ _ HL3.out.cur (by omega)).mono ?_
        rintro e w4 ⟨vw4, k4, rfl, ⟨xw4, rfl⟩, hk4, hc, hg⟩
        have HL4 := Lib.hid (HL3.out.call hp hc hg)
        clear hc hg HL3
        have HO := Lib.hid ((HL4.out.below ((Below.refl _ _).alloc (Nat.le_refl _) (.cells #[.int .i64 xw4.a, .int .i64 xw4.b, .int .i64 xw4.c, .int .i64 xw4.d, .int .i64 xw4.e, .int .i64 xw4.f, .int .i64 xw4.g, .int .i64 xw4.h, .int .i64 xw4.i] 42))).own)
        have HX : Hid (Rd (w4.alloc (.cells #[.int .i64 xw4.a, .int .i64 xw4.b, .int .i64 xw4.c, .int .i64 xw4.d, .int .i64 xw4.e, .int .i64 xw4.f, .int .i64 xw4.g, .int .i64 xw4.h, .int .i64 xw4.i] 42)) (some ⟨w4.heap.size, 0, none⟩) xw4.cells) := Lib.hid (rd_new #[.int .i64 xw4.a, .int .i64 xw4.b, .int .i64 xw4.c, .int .i64 xw4.d, .int .i64 xw4.e, .int .i64 xw4.f, .int .i64 xw4.g, .int .i64 xw4.h, .int .i64 xw4.i] 42 rfl)
        have hbs : w.heap.size ≤ (w4.alloc (.cells #[.int .i64 xw4.a, .int .i64 xw4.b, .int .i64 xw4.c, .int .i64 xw4.d, .int .i64 xw4.e, .int .i64 xw4.f, .int .i64 xw4.g, .int .i64 xw4.h, .int .i64 xw4.i] 42)).heap.size := by have := HL4.out.sz; simp; omega
        go_wp2_with (at_builtin; go_must (refine wpList_app _ rfl (.tmp 24) (.tmp 30) 26 rfl w.heap.size 42 _ 9 72 Try.underlying26 info42 rfl (by omega) _ _ _ rfl HO.out _ 1 1 xw4.cells rfl rfl HX.out (oneCell_9 xw4) (by unfold maxLen; omega) (by omega) hbs ?_); intro v6 w6 o6 g6 d6; refine Hid.out ?_)
        have HLf := Lib.hid (HL4.out.push (x := xw4) hp ((Below.refl _ _).alloc (Nat.le_refl _) _) o6 g6)
        clear o6 g6 d6 HO HX hbs
        refine Lib.hid ?_
        go_wp2
        go_ret
        exact ⟨_, _, k4, rfl, HLf.out.own, by simp; omega, by omega, HLf.out.cur, HLf.out.gr⟩
      · have d0 : (rw2 == 0) = false := by simp [h0]
        by_cases h1 : rw2 = 1
        · subst h1
          go_wp2_with fail
          go_loopw [3] (fun v wr => ∃ (ys : List R9) (kq : Nat), ys.length ≤ 11 ∧ kq + 4 * (12 - ys.length) ≤ k2 + 48 ∧ LRel9 w 42 p u ys v kq wr) (fun v _ => 20 - lenV v)
          case atStart => exact ⟨xs, k2, by omega, by omega, HL2.out⟩
          case round =>
            obtain ⟨ys, kq, hy, hkq, hL⟩ := hrel
            obtain ⟨A2, c2, rfl⟩ := own_form hL.own
            have HL := Lib.hid hL
            clear hL HL2
            go_wp2_with fail
            refine (PK.out kq 2 _ HL.out.cur (by omega) (by decide) (by decide)).mono ?_
            rintro e w5 ⟨vw5, k5, rfl, ⟨rw5, rfl, aw5, bw5⟩, hk5, hc, hg⟩
            have HL5 := Lib.hid (HL.out.call hp hc hg)
            clear hc hg HL
            have hw1 : IntKind.i64.wrap (10 + rw5) = 10 + rw5 := IntWalk.i64_in _ (by omega)
            have hw2 : IntKind.i64.wrap (200 + (ys.length : Int)) = 200 + (ys.length : Int) := IntWalk.i64_in _ (by omega)
            by_cases hq : (ys.length : Int) < 10 + rw5
            · have hy10 : ys.length ≤ 10 := by omega
              have HO := Lib.hid ((HL5.out.below ((Below.refl _ _).alloc (Nat.le_refl _) (.cells #[.int .i64 (200 + (ys.length : Int)), .int .i64 0, .int .i64 0, .int .i64 5, .int .i64 5, .int .i64 0, .int .i64 1, .int .i64 0, .int .i64 50] 42))).own)
              have HX : Hid (Rd (w5.alloc (.cells #[.int .i64 (200 + (ys.length : Int)), .int .i64 0, .int .i64 0, .int .i64 5, .int .i64 5, .int .i64 0, .int .i64 1, .int .i64 0, .int .i64 50] 42)) (some ⟨w5.heap.size, 0, none⟩) (⟨200 + (ys.length : Int), 0, 0, 5, 5, 0, 1, 0, 50⟩ : R9).cells) := Lib.hid (rd_new #[.int .i64 (200 + (ys.length : Int)), .int .i64 0, .int .i64 0, .int .i64 5, .int .i64 5, .int .i64 0, .int .i64 1, .int .i64 0, .int .i64 50] 42 rfl)
              have hbs : w.heap.size ≤ (w5.alloc (.cells #[.int .i64 (200 + (ys.length : Int)), .int .i64 0, .int .i64 0, .int .i64 5, .int .i64 5, .int .i64 0, .int .i64 1, .int .i64 0, .int .i64 50] 42)).heap.size := by have := HL5.out.sz; simp; omega
              go_wp2_with (at_builtin; go_must (refine wpList_app _ rfl (.tmp 40) (.tmp 45) 26 rfl w.heap.size 42 _ 9 72 Try.underlying26 info42 rfl (by omega) _ _ _ rfl HO.out _ 1 1 (⟨200 + (ys.length : Int), 0, 0, 5, 5, 0, 1, 0, 50⟩ : R9).cells rfl rfl HX.out (oneCell_9 (⟨200 + (ys.length : Int), 0, 0, 5, 5, 0, 1, 0, 50⟩ : R9)) (by unfold maxLen; omega) (by omega) hbs ?_); intro v6 w6 o6 g6 d6; refine Hid.out ?_)
              have HLf := Lib.hid (HL5.out.push (x := (⟨200 + (ys.length : Int), 0, 0, 5, 5, 0, 1, 0, 50⟩ : R9)) hp ((Below.refl _ _).alloc (Nat.le_refl _) _) o6 g6)
              clear o6 g6 d6 HO HX hbs
              refine Lib.hid ?_
              obtain ⟨A6, c6, rfl⟩ := own_form HLf.out.own
              go_wp2
              go_roundw
              case rel => exact ⟨_, k5, by simp; omega, by simp; omega, HLf.out⟩
              case measure => simp [lenV]; omega
            · have hq2 : 10 + rw5 ≤ (ys.length : Int) := by omega
              go_wp2
              go_ret
              exact ⟨_, _, k5, rfl, HL5.out.own, by omega, by omega, HL5.out.cur, HL5.out.gr⟩
        · have d1 : (rw2 == 1) = false := by simp [h1]
          go_wp2
          go_ret
          exact ⟨_, _, k2, rfl, HL2.out.own, by omega, by omega, HL2.out.cur, HL2.out.gr⟩
end Go.Proofs.Ytobloedpmjkgpaa
