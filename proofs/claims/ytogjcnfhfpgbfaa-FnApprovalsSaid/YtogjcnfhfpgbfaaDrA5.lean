/- What the law on approvals draws: what is sent. -/
import Derived.Test.YtogjcnfhfpgbfaaDrA4
namespace Go.Proofs.Ytogjcnfhfpgbfaa
set_option linter.unusedVariables false
set_option linter.unusedSimpArgs false
open Go.RowKit

set_option maxRecDepth 20000 in
set_option maxHeartbeats 16000000 in
theorem drawSendItems_any (B : Option Addr) (n c : Nat) (zs : List Int) (w : World) (hn : zs.length = n) (hB : Bytes w B zs) :
    Calls Try.prog 5 #[.slice B n c] w (RetASI w) := by
  subst hn
  have HC0 := Lib.hid (CurB.new hB c 52)
  obtain ⟨u, hu⟩ : ∃ u : Cu, u = ⟨B, c, zs⟩ := ⟨_, rfl⟩
  rw [← hu] at HC0
  clear hu hB
  obtain ⟨p, hp⟩ : ∃ p, p = w.heap.size := ⟨_, rfl⟩
  have HP := Lib.hid hp
  have LS := Lib.hid (fun k w h hk => approvals28_any p k u w h hk)
  have DY := Lib.hid (fun k w A n c xs hn hx hA h hk => approvalDay_any p k u w A n c xs hn hx hA h hk)
  have IT := Lib.hid (fun k w h hk => approvalItem_any p k u w h hk)
  have CA := Lib.hid (fun k w h hk => clientAsk_any p k u w h hk)
  have PU := Lib.hid (fun lo v l z w ho hlo h20 => l1Put_any lo v l z w ho hlo h20)
  have AM := Lib.hid (fun k n c A zs w h hk hz hn hn2 hA hf => among_any p k n c u A zs w h hk hz hn hn2 hA hf)
  have PK := Lib.hid (fun k m w h hk hm hm2 => pick_any p k m u w h hk hm hm2)
  have ON := Lib.hid (fun k m w h hk hm hm2 => one_any p k m u w h hk hm hm2)
  have HC1 : Hid (CurB (w.alloc (.cells #[.slice B zs.length c, .int .i64 0, .int .u64 0] 52)) p u 0) := Lib.hid (by rw [hp]; exact HC0.out)
  have HBW : Hid (w.grownBy (w.alloc (.cells #[.slice B zs.length c, .int .i64 0, .int .u64 0] 52)) (some p)) := Lib.hid (World.grownBy_alloc w _ _)
  have hp1 : p < (w.alloc (.cells #[.slice B zs.length c, .int .i64 0, .int .u64 0] 52)).heap.size := by rw [hp]; simp
  clear HC0 hp
  go_enter Try.func5, Try.ntmps5
  go_wp2_with fail
  rw [← HP.out]
  refine (LS.out 0 _ HC1.out (by omega)).mono ?_
  rintro e w1 ⟨v1, xs, vs, k1, rfl, hL, hx, hk1⟩
  have HL1 := Lib.hid hL
  obtain ⟨A, ca, rfl⟩ := own_form hL.own.row
  have hs1 := hL.sz
  clear hL HC1
  go_wp2_with fail
  refine (DY.out k1 _ A xs.length ca xs rfl hx (fun w' hw => (HL1.out.own.keep hp1 hw).rd2) HL1.out.cur (by omega)).mono ?_
  rintro e w2 ⟨v2, k2, rfl, ⟨z2, rfl⟩, hk2, hc, hg⟩
  have HL2 := Lib.hid (HL1.out.call hp1 hc hg)
  have hs2 := HL2.out.sz
  clear hc hg HL1
  by_cases hl0 : 0 < xs.length
  · have hl0' : (0 : Int) < (xs.length : Int) := by omega
    have hl0d : decide ((0 : Int) < (xs.length : Int)) = true := decide_eq_true hl0'
    have hl0n : decide (0 < xs.length) = true := decide_eq_true hl0
    go_wp2_with fail
    refine (ON.out k2 3 _ HL2.out.cur (by omega) (by decide) (by decide)).mono ?_
    rintro e w3 ⟨v3, k3, rfl, ⟨b3, rfl⟩, hk3, hc, hg⟩
    have HL3 := Lib.hid (HL2.out.call hp1 hc hg)
    have hs3 := HL3.out.sz
    clear hc hg HL2
    cases b3 with
    | true =>
      have HS := Lib.hid (HL3.out.below hp1 ((Below.refl _ _).alloc (Nat.le_refl _) (.cells #[] 3)))
      have HO := Lib.hid (own_empty w3 w3.heap.size 3 1 (Nat.le_refl _))
      obtain ⟨lo, hlo⟩ : ∃ lo, lo = w3.heap.size := ⟨_, rfl⟩
      have HLO := Lib.hid hlo
      clear hlo
      go_wp2_with fail
      refine (PK.out k3 3 _ HS.out.cur (by omega) (by decide) (by decide)).mono ?_
      rintro e w7 ⟨v7, k7, rfl, ⟨r7, rfl, a7, b7⟩, hk7, hc, hg⟩
      have HS7 := Lib.hid (HS.out.call hp1 hc hg)
      have HO7 := Lib.hid (own_grown HO.out hg (by have := HL3.out.sz; omega))
      obtain ⟨n7, hn7⟩ : ∃ n7 : Nat, 1 + r7 = n7 := ⟨(1 + r7).toNat, by omega⟩
      have hwn7 : IntKind.i64.wrap (1 + r7) = (n7 : Int) := by rw [IntWalk.i64_in _ (by omega)]; omega
      have hn73 : n7 ≤ 3 := by omega
      have hss : w3.heap.size ≤ w7.heap.size := by have := hg.size; simp at this; omega
      have hsW := HL3.out.sz
      clear hc hg HS HO HL3 a7 b7
      go_wp2_with fail
      go_loopw [10, 11] (fun q n wr => ∃ (j : Nat) (ks : List Int) (kk : Nat), n = .int .i64 j ∧ ks.length + j ≤ n7 ∧ kk + 4 * j ≤ k7 + 4 * n7 ∧ wr.ownsRow w3.heap.size 3 1 q ks.length (cells1 ks) ∧ ARel (w.alloc (.cells #[.slice B zs.length c, .int .i64 0, .int .u64 0] 52)) 41 p u xs (.slice A xs.length ca) vs kk wr ∧ w3.heap.size ≤ wr.heap.size) (fun _ n _ => (intOf n).toNat)
      case atStart => exact ⟨n7, [], k7, rfl, by simp, by omega, HO7.out, HS7.out, hss⟩
      case round =>
        obtain ⟨j, ks, kk, rfl, hkj, hkk, hO, hS, hsr⟩ := hrel
        obtain ⟨Ak, ck, rfl⟩ := own_form hO
        have HO := Lib.hid hO
        have HS := Lib.hid hS
        clear hO hS HO7 HS7 hss
        by_cases hj0 : 0 < j
        · have hj0' : (0 : Int) < (j : Int) := by omega
          go_wp2_with fail
          refine (IT.out kk _ HS.out.cur (by omega)).mono ?_
          rintro e w8 ⟨v8, k8, rfl, ⟨z8, rfl⟩, hk8, hc, hg⟩
          have HS8 := Lib.hid (HS.out.call hp1 hc hg)
          have HO8 := Lib.hid (own_grown HO.out hg (by omega))
          have hsr8 : w3.heap.size ≤ w8.heap.size := Nat.le_trans hsr hg.size
          clear hc hg HS HO hsr
          go_wp2_with fail
          refine (PU.out w3.heap.size (.slice Ak ks.length ck) ks z8 _ HO8.out hsr8 (by omega)).mono ?_
          rintro e w9 ⟨v9, rfl, o9, b9⟩
          obtain ⟨A9, c9, rfl⟩ := own_form o9
          have HS9 := Lib.hid (HS8.out.below hp1 b9)
          have HO9 := Lib.hid o9
          have hpl := putV_len ks z8
          have hsr9 : w3.heap.size ≤ w9.heap.size := Nat.le_trans hsr8 b9.size
          clear o9 b9 HS8 HO8 hsr8
          go_wp2
          go_roundw
          case rel => exact ⟨j - 1, putV ks z8, k8, by go_num, by omega, by omega, HO9.out, HS9.out, hsr9⟩
          case measure => simp [intOf]; omega
        · have hj : j = 0 := by omega
          subst hj
          rw [show ((0 : Nat) : Int) = 0 from rfl]
          go_wp2_with fail
          refine (CA.out kk _ HS.out.cur (by omega)).mono ?_
          rintro e w8 ⟨v8, k8, rfl, ⟨s8, rfl, hs8⟩, hk8, hc, hg⟩
          have HS8 := Lib.hid (HS.out.call hp1 hc hg)
          have HO8 := Lib.hid (own_grown HO.out hg (by omega))
          clear hc hg HS HO
          go_wp2
          refine bodyPost_ret (v := .tuple #[.slice A xs.length ca, .string s8, .int .i64 z2, .slice Ak ks.length ck]) (by simp [results, Try.results5, go_sem]) rfl ?_
          exact ⟨_, xs, s8, _, Ak, ck, ks, rfl, hs8, LstA.of HS8.out.own hx, Rd.of_own HO8.out, by omega, own_capS HO8.out, (Below.refl _ _).grown (grown_trans HBW.out HS8.out.gr) (Nat.le_refl _) (fun k hk => by injection hk with hk; have := HP.out; omega)⟩
    | false =>
      obtain ⟨m, hm⟩ : ∃ m, xs.length = m + 1 := ⟨xs.length - 1, by omega⟩
      obtain ⟨x, hxm⟩ : ∃ x, xs[m]? = some x := ⟨xs[m]'(by omega), List.getElem?_eq_getElem _⟩
      obtain ⟨g, o, Bx, cBx, Dx, cDx, eA, hrow⟩ := HL3.out.own.rd2.at hxm
      subst eA
      have hgl : g < w3.heap.size := hrow.lt
      have c2 := hrow.c2
      have hgp : g ≠ p := fun e => by have := (HL3.out.own.row.lt g rfl).1; omega
      have hwm : IntKind.i64.wrap ((xs.length : Int) - 1) = (m : Int) := by rw [IntWalk.i64_in _ (by omega)]; omega
      have hm0 : (0 : Int) ≤ (m : Int) := by omega
      have hml : (m : Int) < (xs.length : Int) := by omega
      have HXM := Lib.hid hm
      clear hrow hxm hm
      go_wp2_with fail
      go_region_held3 (fun w' => w'.cell? ⟨g, o + m * 6 + 2, none⟩ = some (.int .i64 x.sent)) (first | go_keep | exact KE4) (first
        | (go_at_call 27; refine (AM.out k3 3 _ (some ⟨w3.heap.size, 0, none⟩) [0, 1, 40] _ (by first | exact ((HL3.out.below hp1 ((Below.refl _ _).alloc (Nat.le_refl _) _)).below hp1 (Below.refl _ _).drew).cur | exact (HL3.out.below hp1 ((Below.refl _ _).drew.alloc (Nat.le_refl _) _)).cur) (by omega) rfl (by decide) (by decide) (by first | exact rd_ints (w := w3) [0, 1, 40] 3 | exact (rd_ints (w := w3) [0, 1, 40] 3).below (Below.refl _ _).drew) (fun g o q e => by have := HL3.out.cur.lt; injection e with e; injection e with e; omega)).mono ?_; rintro e w4 ⟨v4, k4, rfl, ⟨z4, -, rfl⟩, hk4, hc, hg⟩; have hg34 := grown_trans (grown_drew (World.grownBy_alloc w3 (.cells (cells1 [0, 1, 40]).toArray 3) (some p))) hg; have KE4 : w4.cell? ⟨g, o + m * 6 + 2, none⟩ = some (.int .i64 x.sent) := (app_keep hg34 hgl (by intro e; injection e with e; exact hgp e) _).trans c2)
        | (go_at_call 26; refine (l1Least_any 4000 _ _).mono ?_; rintro e w5 ⟨rfl, rfl⟩))
      all_goals go_goals
      all_goals (
        have HL4 := Lib.hid (HL3.out.call hp1 hc hg34)
        have hs4 := HL4.out.sz
        clear hc hg hg34 KE4 HL3 c2
        have HS := Lib.hid (HL4.out.below hp1 ((Below.refl _ _).alloc (Nat.le_refl _) (.cells #[] 3)))
        have HO := Lib.hid (own_empty w4 w4.heap.size 3 1 (Nat.le_refl _))
        obtain ⟨lo, hlo⟩ : ∃ lo, lo = w4.heap.size := ⟨_, rfl⟩
        have HLO := Lib.hid hlo
        clear hlo
        go_wp2_with fail
        refine (PK.out k4 3 _ HS.out.cur (by omega) (by decide) (by decide)).mono ?_
        rintro e w7 ⟨v7, k7, rfl, ⟨r7, rfl, a7, b7⟩, hk7, hc, hg⟩
        have HS7 := Lib.hid (HS.out.call hp1 hc hg)
        have HO7 := Lib.hid (own_grown HO.out hg (by have := HL4.out.sz; omega))
        obtain ⟨n7, hn7⟩ : ∃ n7 : Nat, 1 + r7 = n7 := ⟨(1 + r7).toNat, by omega⟩
        have hwn7 : IntKind.i64.wrap (1 + r7) = (n7 : Int) := by rw [IntWalk.i64_in _ (by omega)]; omega
        have hn73 : n7 ≤ 3 := by omega
        have hss : w4.heap.size ≤ w7.heap.size := by have := hg.size; simp at this; omega
        have hsW := HL4.out.sz
        clear hc hg HS HO HL4 a7 b7
        go_wp2_with fail
        go_loopw [10, 11] (fun q n wr => ∃ (j : Nat) (ks : List Int) (kk : Nat), n = .int .i64 j ∧ ks.length + j ≤ n7 ∧ kk + 4 * j ≤ k7 + 4 * n7 ∧ wr.ownsRow w4.heap.size 3 1 q ks.length (cells1 ks) ∧ ARel (w.alloc (.cells #[.slice B zs.length c, .int .i64 0, .int .u64 0] 52)) 41 p u xs (.slice (some ⟨g, o, none⟩) xs.length ca) vs kk wr ∧ w4.heap.size ≤ wr.heap.size) (fun _ n _ => (intOf n).toNat)
        case atStart => exact ⟨n7, [], k7, rfl, by simp, by omega, HO7.out, HS7.out, hss⟩
        case round =>
          obtain ⟨j, ks, kk, rfl, hkj, hkk, hO, hS, hsr⟩ := hrel
          obtain ⟨Ak, ck, rfl⟩ := own_form hO
          have HO := Lib.hid hO
          have HS := Lib.hid hS
          clear hO hS HO7 HS7 hss
          by_cases hj0 : 0 < j
          · have hj0' : (0 : Int) < (j : Int) := by omega
            go_wp2_with fail
            refine (IT.out kk _ HS.out.cur (by omega)).mono ?_
            rintro e w8 ⟨v8, k8, rfl, ⟨z8, rfl⟩, hk8, hc, hg⟩
            have HS8 := Lib.hid (HS.out.call hp1 hc hg)
            have HO8 := Lib.hid (own_grown HO.out hg (by omega))
            have hsr8 : w4.heap.size ≤ w8.heap.size := Nat.le_trans hsr hg.size
            clear hc hg HS HO hsr
            go_wp2_with fail
            refine (PU.out w4.heap.size (.slice Ak ks.length ck) ks z8 _ HO8.out hsr8 (by omega)).mono ?_
            rintro e w9 ⟨v9, rfl, o9, b9⟩
            obtain ⟨A9, c9, rfl⟩ := own_form o9
            have HS9 := Lib.hid (HS8.out.below hp1 b9)
            have HO9 := Lib.hid o9
            have hpl := putV_len ks z8
            have hsr9 : w4.heap.size ≤ w9.heap.size := Nat.le_trans hsr8 b9.size
            clear o9 b9 HS8 HO8 hsr8
            go_wp2
            go_roundw
            case rel => exact ⟨j - 1, putV ks z8, k8, by go_num, by omega, by omega, HO9.out, HS9.out, hsr9⟩
            case measure => simp [intOf]; omega
          · have hj : j = 0 := by omega
            subst hj
            rw [show ((0 : Nat) : Int) = 0 from rfl]
            go_wp2_with fail
            refine (CA.out kk _ HS.out.cur (by omega)).mono ?_
            rintro e w8 ⟨v8, k8, rfl, ⟨s8, rfl, hs8⟩, hk8, hc, hg⟩
            have HS8 := Lib.hid (HS.out.call hp1 hc hg)
            have HO8 := Lib.hid (own_grown HO.out hg (by omega))
            clear hc hg HS HO
            go_wp2
            refine bodyPost_ret (v := .tuple #[.slice (some ⟨g, o, none⟩) xs.length ca, .string s8, .int .i64 (leastOf 4000 (IntKind.i64.wrap (x.sent + z4))), .slice Ak ks.length ck]) (by simp [results, Try.results5, go_sem]) rfl ?_
            exact ⟨_, xs, s8, _, Ak, ck, ks, rfl, hs8, LstA.of HS8.out.own hx, Rd.of_own HO8.out, by omega, own_capS HO8.out, (Below.refl _ _).grown (grown_trans HBW.out HS8.out.gr) (Nat.le_refl _) (fun k hk => by injection hk with hk; have := HP.out; omega)⟩)
  · have hl0' : ¬ (0 : Int) < (xs.length : Int) := by omega
    have hl0d : decide ((0 : Int) < (xs.length : Int)) = false := decide_eq_false hl0'
    have hl0n : decide (0 < xs.length) = false := decide_eq_false hl0
    have HS := Lib.hid (HL2.out.below hp1 ((Below.refl _ _).alloc (Nat.le_refl _) (.cells #[] 3)))
    have HO := Lib.hid (own_empty w2 w2.heap.size 3 1 (Nat.le_refl _))
    obtain ⟨lo, hlo⟩ : ∃ lo, lo = w2.heap.size := ⟨_, rfl⟩
    have HLO := Lib.hid hlo
    clear hlo
    go_wp2_with fail
    refine (PK.out k2 3 _ HS.out.cur (by omega) (by decide) (by decide)).mono ?_
    rintro e w7 ⟨v7, k7, rfl, ⟨r7, rfl, a7, b7⟩, hk7, hc, hg⟩
    have HS7 := Lib.hid (HS.out.call hp1 hc hg)
    have HO7 := Lib.hid (own_grown HO.out hg (by have := HL2.out.sz; omega))
    obtain ⟨n7, hn7⟩ : ∃ n7 : Nat, 1 + r7 = n7 := ⟨(1 + r7).toNat, by omega⟩
    have hwn7 : IntKind.i64.wrap (1 + r7) = (n7 : Int) := by rw [IntWalk.i64_in _ (by omega)]; omega
    have hn73 : n7 ≤ 3 := by omega
    have hss : w2.heap.size ≤ w7.heap.size := by have := hg.size; simp at this; omega
    have hsW := HL2.out.sz
    clear hc hg HS HO HL2 a7 b7
    go_wp2_with fail
    go_loopw [10, 11] (fun q n wr => ∃ (j : Nat) (ks : List Int) (kk : Nat), n = .int .i64 j ∧ ks.length + j ≤ n7 ∧ kk + 4 * j ≤ k7 + 4 * n7 ∧ wr.ownsRow w2.heap.size 3 1 q ks.length (cells1 ks) ∧ ARel (w.alloc (.cells #[.slice B zs.length c, .int .i64 0, .int .u64 0] 52)) 41 p u xs (.slice A xs.length ca) vs kk wr ∧ w2.heap.size ≤ wr.heap.size) (fun _ n _ => (intOf n).toNat)
    case atStart => exact ⟨n7, [], k7, rfl, by simp, by omega, HO7.out, HS7.out, hss⟩
    case round =>
      obtain ⟨j, ks, kk, rfl, hkj, hkk, hO, hS, hsr⟩ := hrel
      obtain ⟨Ak, ck, rfl⟩ := own_form hO
      have HO := Lib.hid hO
      have HS := Lib.hid hS
      clear hO hS HO7 HS7 hss
      by_cases hj0 : 0 < j
      · have hj0' : (0 : Int) < (j : Int) := by omega
        go_wp2_with fail
        refine (IT.out kk _ HS.out.cur (by omega)).mono ?_
        rintro e w8 ⟨v8, k8, rfl, ⟨z8, rfl⟩, hk8, hc, hg⟩
        have HS8 := Lib.hid (HS.out.call hp1 hc hg)
        have HO8 := Lib.hid (own_grown HO.out hg (by omega))
        have hsr8 : w2.heap.size ≤ w8.heap.size := Nat.le_trans hsr hg.size
        clear hc hg HS HO hsr
        go_wp2_with fail
        refine (PU.out w2.heap.size (.slice Ak ks.length ck) ks z8 _ HO8.out hsr8 (by omega)).mono ?_
        rintro e w9 ⟨v9, rfl, o9, b9⟩
        obtain ⟨A9, c9, rfl⟩ := own_form o9
        have HS9 := Lib.hid (HS8.out.below hp1 b9)
        have HO9 := Lib.hid o9
        have hpl := putV_len ks z8
        have hsr9 : w2.heap.size ≤ w9.heap.size := Nat.le_trans hsr8 b9.size
        clear o9 b9 HS8 HO8 hsr8
        go_wp2
        go_roundw
        case rel => exact ⟨j - 1, putV ks z8, k8, by go_num, by omega, by omega, HO9.out, HS9.out, hsr9⟩
        case measure => simp [intOf]; omega
      · have hj : j = 0 := by omega
        subst hj
        rw [show ((0 : Nat) : Int) = 0 from rfl]
        go_wp2_with fail
        refine (CA.out kk _ HS.out.cur (by omega)).mono ?_
        rintro e w8 ⟨v8, k8, rfl, ⟨s8, rfl, hs8⟩, hk8, hc, hg⟩
        have HS8 := Lib.hid (HS.out.call hp1 hc hg)
        have HO8 := Lib.hid (own_grown HO.out hg (by omega))
        clear hc hg HS HO
        go_wp2
        refine bodyPost_ret (v := .tuple #[.slice A xs.length ca, .string s8, .int .i64 z2, .slice Ak ks.length ck]) (by simp [results, Try.results5, go_sem]) rfl ?_
        exact ⟨_, xs, s8, _, Ak, ck, ks, rfl, hs8, LstA.of HS8.out.own hx, Rd.of_own HO8.out, by omega, own_capS HO8.out, (Below.refl _ _).grown (grown_trans HBW.out HS8.out.gr) (Nat.le_refl _) (fun k hk => by injection hk with hk; have := HP.out; omega)⟩
end Go.Proofs.Ytogjcnfhfpgbfaa
