/- The list of insurances that the cursor draws. -/
import Derived.Test.YtiafiehglfmjaaaDoorCurI2
namespace Go.Proofs.YtiafiehglfmjaaaDoor
set_option linter.unusedVariables false
set_option linter.unusedSimpArgs false
open Go.RowKit

theorem oneCell_i (x : R5) : ∀ u ∈ x.cells, u.oneCell' = true := fun u hu => oneCell_cells5 [x] u (by simpa [cells5] using hu)

set_option maxRecDepth 20000 in
set_option maxHeartbeats 8000000 in
theorem insureds26_any (p k : Nat) (u : Cu) (w : World) (h : CurB w p u k) (hk : k ≤ 600000) :
    Calls Tryd.prog 21 #[.pointer (some ⟨p, 0, none⟩)] w (RetCL 33 22 p u k 300 w) := by
  have PK := Lib.hid (fun k m w h hk hm hm2 => pick_any p k m u w h hk hm hm2)
  have ON := Lib.hid (fun k m w h hk hm hm2 => one_any p k m u w h hk hm hm2)
  have AM := Lib.hid (fun k n c A zs w h hk hz hn hn2 hA hf => among_any p k n c u A zs w h hk hz hn hn2 hA hf)
  have II := Lib.hid (fun k a b w h hk => insured26_any p k u a b w h hk)
  have LE := Lib.hid (fun a b w => l1LeastE a b w)
  have HC := Lib.hid h
  have hp := h.lt
  clear h
  go_enter Tryd.func21, Tryd.ntmps21
  go_wp2_with fail
  refine (PK.out k 4 _ (HC.out.alloc _) (by omega) (by decide) (by decide)).mono ?_
  rintro e w1 ⟨v1, k1, rfl, ⟨r1, rfl, a1, b1⟩, hk1, hc, hg⟩
  obtain ⟨m, rfl⟩ : ∃ m : Nat, r1 = m := ⟨r1.toNat, by omega⟩
  have hm : m ≤ 3 := by omega
  have HL0 : Hid (LRel w 33 p u [] (.slice (some ⟨w.heap.size, 0, none⟩) 0 0) k1 w1) := Lib.hid (LRel.call (wr := w.alloc (.cells #[] 33)) (k := k) ⟨own_empty w _ _ _ (Nat.le_refl _), HC.out.alloc _, World.grownBy_alloc w _ _⟩ hp hc hg)
  clear a1 b1 hc hg HC
  go_wp2_with fail
  go_loopw [3, 4, 5, 6, 7] (fun v it i f q wr => ∃ (j : Nat) (xs : List R5) (kk : Nat) (iv : Int), it = .int .i64 iv ∧ i = .int .i64 j ∧ j ≤ m ∧ xs.length + 3 * j ≤ 9 ∧ kk + 60 * j ≤ k1 + 60 * m ∧ LRel w 33 p u xs v kk wr) (fun _ _ i _ _ _ => (intOf i).toNat)
  case atStart => exact ⟨m, [], k1, 0, rfl, rfl, by omega, by simp; omega, by omega, HL0.out⟩
  case round =>
    obtain ⟨j, xs, kk, iv, rfl, rfl, hj, hx9, hkk, hL⟩ := hrel
    obtain ⟨A, c, rfl⟩ := own_form hL.own
    have HL := Lib.hid hL
    clear hL HL0
    by_cases hj0 : 0 < j
    · have hj0' : (0 : Int) < (j : Int) := by omega
      go_wp2_with fail
      refine (PK.out kk 2 _ HL.out.cur (by omega) (by decide) (by decide)).mono ?_
      rintro e w2 ⟨vw2, k2, rfl, ⟨rw2, rfl, aw2, bw2⟩, hk2, hc, hg⟩
      have HL2 := Lib.hid (HL.out.call hp hc hg)
      clear hc hg HL
      go_wp2_with fail
      refine (PK.out k2 150 _ HL2.out.cur (by omega) (by decide) (by decide)).mono ?_
      rintro e w3 ⟨vw3, k3, rfl, ⟨rw3, rfl, aw3, bw3⟩, hk3, hc, hg⟩
      have HL3 := Lib.hid (HL2.out.call hp hc hg)
      clear hc hg HL2
      go_wp2_with fail
      refine (AM.out k3 5 _ (some ⟨w3.heap.size, 0, none⟩) [0, 50, 50, 100, 3990] _ (HL3.out.cur.alloc _) (by omega) rfl (by decide) (by decide) (rd_ints (w := w3) [0, 50, 50, 100, 3990] 3) (fun g o q e => by have := HL3.out.cur.lt; injection e with e; injection e with e; omega)).mono ?_
      rintro e w4 ⟨vw4, k4, rfl, ⟨zw4, -, rfl⟩, hk4, hc, hg⟩
      have HL4 := Lib.hid ((HL3.out.below ((Below.refl _ _).alloc (Nat.le_refl _) _)).call hp hc hg)
      clear hc hg HL3
      go_wp2_with fail
      refine (PK.out k4 3 _ HL4.out.cur (by omega) (by decide) (by decide)).mono ?_
      rintro e w5 ⟨vw5, k5, rfl, ⟨rw5, rfl, aw5, bw5⟩, hk5, hc, hg⟩
      have HL5 := Lib.hid (HL4.out.call hp hc hg)
      clear hc hg HL4
      obtain ⟨q0, rfl⟩ : ∃ q0 : Nat, rw5 = q0 := ⟨rw5.toNat, by omega⟩
      have hq0 : q0 ≤ 2 := by omega
      have hwq : IntKind.i64.wrap (1 + (q0 : Int)) = 1 + (q0 : Int) := IntWalk.i64_in _ (by omega)
      clear aw5 bw5 aw2 bw2 aw3 bw3
      go_wp2_with fail
      go_loopw [3, 6, 7] (fun v f i wr => ∃ (q : Nat) (ys : List R5) (kq : Nat) (fv : Int), f = .int .i64 fv ∧ i = .int .i64 q ∧ q ≤ 3 ∧ ys.length + q ≤ xs.length + q0 + 1 ∧ kq + 14 * q ≤ k5 + 14 * (q0 + 1) ∧ LRel w 33 p u ys v kq wr) (fun _ _ i _ => (intOf i).toNat)
      case atStart => exact ⟨q0 + 1, xs, k5, zw4, rfl, by go_num, by omega, by omega, by omega, HL5.out⟩
      case round =>
        obtain ⟨q, ys, kq, fv, rfl, rfl, hq3, hyq, hkq, hL⟩ := hrel
        obtain ⟨A2, c2, rfl⟩ := own_form hL.own
        have HL := Lib.hid hL
        clear hL HL5
        by_cases hq0' : 0 < q
        · have hq1 : (0 : Int) < (q : Int) := by omega
          go_wp2_with fail
          refine (II.out kq _ fv _ HL.out.cur (by omega)).mono ?_
          rintro e w7 ⟨v7, k7, rfl, ⟨x, rfl⟩, hk7, hc, hg⟩
          have HL7 := Lib.hid (HL.out.call hp hc hg)
          clear hc hg HL
          have HO := Lib.hid ((HL7.out.below ((Below.refl _ _).alloc (Nat.le_refl _) (.cells #[.int .i64 x.a, .int .i64 x.b, .int .i64 x.c, .int .i64 x.d, .int .i64 x.e] 33))).own)
          have HX : Hid (Rd (w7.alloc (.cells #[.int .i64 x.a, .int .i64 x.b, .int .i64 x.c, .int .i64 x.d, .int .i64 x.e] 33)) (some ⟨w7.heap.size, 0, none⟩) x.cells) := Lib.hid (rd_new #[.int .i64 x.a, .int .i64 x.b, .int .i64 x.c, .int .i64 x.d, .int .i64 x.e] 33 rfl)
          have hbs : w.heap.size ≤ (w7.alloc (.cells #[.int .i64 x.a, .int .i64 x.b, .int .i64 x.c, .int .i64 x.d, .int .i64 x.e] 33)).heap.size := by have := HL7.out.sz; simp; omega
          go_wp2_with (at_builtin; go_must (refine wpList_app _ rfl (.tmp 35) (.tmp 40) 24 rfl w.heap.size 33 _ 5 40 Tryd.underlying24 info33 rfl (by omega) _ _ _ rfl HO.out _ 1 1 x.cells rfl rfl HX.out (oneCell_i x) (by unfold maxLen; omega) (by omega) hbs ?_); intro v6 w6 o6 g6 d6; refine Hid.out ?_)
          have HLf := Lib.hid (HL7.out.push (x := x) hp ((Below.refl _ _).alloc (Nat.le_refl _) _) o6 g6)
          clear o6 g6 d6 HO HX hbs
          refine Lib.hid ?_
          go_wp2_with fail
          refine (AM.out k7 6 _ (some ⟨w6.heap.size, 0, none⟩) [1, 5, 10, 11, 100, 365] _ (HLf.out.cur.alloc _) (by omega) rfl (by decide) (by decide) (rd_ints (w := w6) [1, 5, 10, 11, 100, 365] 3) (fun g o q e => by have := HLf.out.cur.lt; injection e with e; injection e with e; omega)).mono ?_
          rintro e w8 ⟨vw8, k8, rfl, ⟨zw8, -, rfl⟩, hk8, hc, hg⟩
          have HL8 := Lib.hid ((HLf.out.below ((Below.refl _ _).alloc (Nat.le_refl _) _)).call hp hc hg)
          clear hc hg HLf
          go_wp2_with fail
          refine (LE.out _ _ _).mono ?_
          rintro e w9 ⟨⟨L, rfl⟩, rfl⟩
          go_wp2
          go_roundw
          case rel => exact ⟨q - 1, _, k8, L, rfl, by go_num, by omega, by simp; omega, by omega, HL8.out⟩
          case measure => simp [intOf]; omega
        · obtain rfl : q = 0 := by omega
          go_wp2
          go_roundw
          case rel => exact ⟨j - 1, _, kq, _, rfl, by go_num, by omega, by omega, by omega, HL.out⟩
          case measure => simp [intOf]; omega
    · obtain rfl : j = 0 := by omega
      go_wp2_with fail
      refine (ON.out kk 24 _ HL.out.cur (by omega) (by decide) (by decide)).mono ?_
      rintro e w2 ⟨v2, k2, rfl, ⟨b2, rfl⟩, hk2, hc, hg⟩
      have HL2 := Lib.hid (HL.out.call hp hc hg)
      clear hc hg HL
      cases b2 with
      | false =>
        go_wp2
        go_ret
        exact ⟨_, _, k2, rfl, HL2.out.own, by omega, by omega, HL2.out.cur, HL2.out.gr⟩
      | true =>
        have HL3 := Lib.hid (HL2.out.new (ys := []) (own_empty w2 _ _ _ (Nat.le_refl _)) ((Below.refl _ _).alloc (Nat.le_refl _) _))
        clear HL2
        go_wp2_with fail
        go_loopw [3, 8] (fun v i wr => ∃ (n : Nat) (ys : List R5) (kq : Nat), i = .int .i64 n ∧ n ≤ 13 ∧ ys.length = n ∧ kq + 2 * (14 - n) ≤ k2 + 28 ∧ LRel w 33 p u ys v kq wr) (fun _ i _ => 20 - (intOf i).toNat)
        case atStart => exact ⟨0, [], k2, rfl, by omega, rfl, by omega, HL3.out⟩
        case round =>
          obtain ⟨n, ys, kq, rfl, hn13, hyn, hkq, hL⟩ := hrel
          obtain ⟨A2, c2, rfl⟩ := own_form hL.own
          have HL := Lib.hid hL
          have HYN := Lib.hid hyn
          clear hL HL3 hyn
          go_wp2_with fail
          refine (PK.out kq 2 _ HL.out.cur (by omega) (by decide) (by decide)).mono ?_
          rintro e w5 ⟨vw5, k5, rfl, ⟨rw5, rfl, aw5, bw5⟩, hk5, hc, hg⟩
          have HL5 := Lib.hid (HL.out.call hp hc hg)
          clear hc hg HL
          have hn0 : (0 : Int) ≤ (n : Int) := by omega
          have hw1 : IntKind.i64.wrap (12 + rw5) = 12 + rw5 := IntWalk.i64_in _ (by omega)
          have hw2 : IntKind.i64.wrap ((n : Int) / 3) = (n : Int) / 3 := IntWalk.i64_in _ (by omega)
          have hw3 : IntKind.i64.wrap (1 + (n : Int) / 3) = 1 + (n : Int) / 3 := IntWalk.i64_in _ (by omega)
          have hw4 : IntKind.i64.wrap (20 * ((n : Int) % 3)) = 20 * ((n : Int) % 3) := IntWalk.i64_in _ (by omega)
          have hw5 : IntKind.i64.wrap (20 * ((n : Int) % 3) + 30) = 20 * ((n : Int) % 3) + 30 := IntWalk.i64_in _ (by omega)
          have hw6 : IntKind.i64.wrap (100 + (n : Int)) = 100 + (n : Int) := IntWalk.i64_in _ (by omega)
          by_cases hq : (n : Int) < 12 + rw5
          · have hn12 : n ≤ 12 := by omega
            have hy12 : ys.length ≤ 12 := by have := HYN.out; omega
            have HO := Lib.hid ((HL5.out.below ((Below.refl _ _).alloc (Nat.le_refl _) (.cells #[.int .i64 (1 + (n : Int) / 3), .int .i64 (20 * ((n : Int) % 3)), .int .i64 (20 * ((n : Int) % 3) + 30), .int .i64 (100 + (n : Int)), .int .i64 20] 33))).own)
            have HX : Hid (Rd (w5.alloc (.cells #[.int .i64 (1 + (n : Int) / 3), .int .i64 (20 * ((n : Int) % 3)), .int .i64 (20 * ((n : Int) % 3) + 30), .int .i64 (100 + (n : Int)), .int .i64 20] 33)) (some ⟨w5.heap.size, 0, none⟩) (⟨1 + (n : Int) / 3, 20 * ((n : Int) % 3), 20 * ((n : Int) % 3) + 30, 100 + (n : Int), 20⟩ : R5).cells) := Lib.hid (rd_new #[.int .i64 (1 + (n : Int) / 3), .int .i64 (20 * ((n : Int) % 3)), .int .i64 (20 * ((n : Int) % 3) + 30), .int .i64 (100 + (n : Int)), .int .i64 20] 33 rfl)
            have hbs : w.heap.size ≤ (w5.alloc (.cells #[.int .i64 (1 + (n : Int) / 3), .int .i64 (20 * ((n : Int) % 3)), .int .i64 (20 * ((n : Int) % 3) + 30), .int .i64 (100 + (n : Int)), .int .i64 20] 33)).heap.size := by have := HL5.out.sz; simp; omega
            go_wp2_with (at_builtin; go_must (refine wpList_app _ rfl (.tmp 58) (.tmp 72) 24 rfl w.heap.size 33 _ 5 40 Tryd.underlying24 info33 rfl (by omega) _ _ _ rfl HO.out _ 1 1 (⟨1 + (n : Int) / 3, 20 * ((n : Int) % 3), 20 * ((n : Int) % 3) + 30, 100 + (n : Int), 20⟩ : R5).cells rfl rfl HX.out (oneCell_i (⟨1 + (n : Int) / 3, 20 * ((n : Int) % 3), 20 * ((n : Int) % 3) + 30, 100 + (n : Int), 20⟩ : R5)) (by unfold maxLen; omega) (by omega) hbs ?_); intro v6 w6 o6 g6 d6; refine Hid.out ?_)
            have HLf := Lib.hid (HL5.out.push (x := (⟨1 + (n : Int) / 3, 20 * ((n : Int) % 3), 20 * ((n : Int) % 3) + 30, 100 + (n : Int), 20⟩ : R5)) hp ((Below.refl _ _).alloc (Nat.le_refl _) _) o6 g6)
            clear o6 g6 d6 HO HX hbs
            refine Lib.hid ?_
            go_wp2
            go_roundw
            case rel => exact ⟨n + 1, _, k5, by go_num, by omega, by have := HYN.out; simp; omega, by omega, HLf.out⟩
            case measure => simp [intOf]; omega
          · have hq2 : 12 + rw5 ≤ (n : Int) := by omega
            go_wp2
            go_ret
            exact ⟨_, _, k5, rfl, HL5.out.own, by have := HYN.out; omega, by omega, HL5.out.cur, HL5.out.gr⟩

end Go.Proofs.YtiafiehglfmjaaaDoor
