/- SharesOf: the program's function and the reference's return one list. -/
import Derived.Test.YtpmklcpplpnlhaaTreS
import Derived.Test.YtpmklcpplpnlhaaTreD
namespace Go.Proofs.Ytpmklcpplpnlhaa
set_option linter.unusedVariables false
set_option linter.unusedSimpArgs false
open Go.RowKit

theorem rd_take {w : World} {A : Option Addr} {zs : List Int} (h : Rd w A (cells1 zs)) (k : Nat) : Rd w A (cells1 (zs.take k)) := by
  have : cells1 zs = cells1 (zs.take k) ++ cells1 (zs.drop k) := by rw [← cells1_append, List.take_append_drop]
  rw [this] at h
  exact h.prefix_
/-- The list that a loop of shares builds. -/
def ShOut (W : World) (E : Nat) (out : List Int) (v : Value) (wr : World) : Prop := wr.ownsRow W.heap.size E 1 v out.length (cells1 out) ∧ Below W.heap.size W wr
theorem ShOut.app {W wr w1 w2 : World} {E : Nat} {out : List Int} {v v' : Value} {z : Int} (h : ShOut W E out v wr) (hb : Below wr.heap.size wr w1) (ho1 : w1.ownsRow W.heap.size E 1 v out.length (cells1 out)) (ho : w2.ownsRow W.heap.size E 1 v' (out.length + 1) (cells1 out ++ [.int .i64 z])) (hg : w1.grownBy w2 v.ownBlock) : ShOut W E (out ++ [z]) v' w2 := by
  have hB := h.2.trans (hb.mono h.2.size)
  refine ⟨?_, hB.trans (below_app ho1 hg hB.size (Nat.le_refl _))⟩
  rw [List.length_append, cells1_append]; exact ho

set_option maxRecDepth 20000 in
set_option maxHeartbeats 4000000 in
theorem l25IsChain_any (A : Option Addr) (n c : Nat) (xs : List R5) (B : Option Addr) (m cm : Nat) (zs : List Int) (day : Int) (w : World) (hn : xs.length = n) (hA : Rd w A (cells5 xs)) (h20 : n ≤ 1048576) (hm : zs.length = m) (hB : Rd w B (cells1 zs)) (hm20 : m ≤ 1048576) (hcm : m ≤ cm) (hcm2 : cm ≤ maxLen) :
    Calls Try.prog 51 #[.slice A n c, .slice B m cm, .int .i64 day] w (Ret (.bool (chainB xs day zs)) w) := by
  unfold maxLen at hcm2
  by_cases hlen : 2 ≤ m ∧ m ≤ 9
  · have C1 := Lib.hid (fun w => l1In_any (m : Int) 2 9 w)
    rw [inR_true.2 (show (2 : Int) ≤ m ∧ (m : Int) ≤ 9 by omega)] at C1
    go_enter Try.func51, Try.ntmps51
    go_wp2_with fail
    refine (C1.out _).mono ?_
    rintro e w' ⟨rfl, rfl⟩
    go_wp2_with fail
    go_loopw [7, 6] (fun i r wr => ∃ (k : Nat), k ≤ m ∧ i = .int .i64 k ∧ r = .bool false ∧ (∀ j, j < k → okC xs day zs j = true) ∧ Below w.heap.size w wr) (fun i _ _ => m - (intOf i).toNat)
    case atStart => exact ⟨0, by omega, rfl, rfl, fun j hj => by omega, Below.refl _ _⟩
    case round =>
      obtain ⟨k, hk, rfl, rfl, hrel, hb⟩ := hrel
      have HR := Lib.hid hrel
      clear hrel
      by_cases hlt : k < m
      · obtain ⟨z, hz⟩ : ∃ z, zs[k]? = some z := ⟨zs[k], List.getElem?_eq_getElem (by omega)⟩
        obtain ⟨g, o, hBe, hg, c0⟩ := (hB.below hb).at1 hz
        have HZ := Lib.hid hz
        have C2 := Lib.hid (fun w => l25Post_any z w)
        have C3 := Lib.hid (fun w h => l1Has_any B k cm (zs.take k) z w (by rw [List.length_take]; omega) h (by omega))
        have HRD := Lib.hid (fun (W : World) (h : Below wr.heap.size wr W) => rd_take ((hB.below hb).below h) k)
        have HAB := Lib.hid (fun (W : World) (h : Below wr.heap.size wr W) => (hA.below hb).below h)
        subst hBe
        have hki : (0 : Int) ≤ (k : Int) := by omega
        have hkc : (k : Int) ≤ (cm : Int) := by omega
        cases hp : inR z 0 8 with
        | false =>
          rw [hp] at C2
          have HN := Lib.hid (show okC xs day zs k = false by simp [okC, hz, hp])
          clear hz hp C3
          go_wp2_with fail
          refine wp_region_lat wr.heap.size (by kernel_rfl) (by kernel_rfl) ?_
          have LC := fun (u : Lat wr.heap.size wr) => u.cell
          repeat (go_big_quiet_step ((first | (go_at_call 71; (with_reducible exact lat_same _ (C2.out _))) | fail)))
          refine wpQuiet_nil ?_
          intro w1 b1
          clear LC
          go_wp2
          go_ret
          exact ⟨ret_bool (chainB_no (by omega) HN.out).symm, hb.trans (b1.mono hb.size)⟩
        | true =>
          rw [hp] at C2
          cases hh : hasB (zs.take k) z with
          | true =>
            rw [hh] at C3
            have HN := Lib.hid (show okC xs day zs k = false by simp [okC, hz, hp, hh])
            clear hz hp hh
            go_wp2_with fail
            refine wp_region_lat wr.heap.size (by kernel_rfl) (by kernel_rfl) ?_
            have LC := fun (u : Lat wr.heap.size wr) => u.cell
            repeat (go_big_quiet_step ((first | (go_at_call 71; (with_reducible exact lat_same _ (C2.out _))) | (go_at_call 30; (with_reducible exact lat_same _ (C3.out _ (HRD.out _ (Lat.below _))))) | fail)))
            refine wpQuiet_nil ?_
            intro w1 b1
            clear LC
            go_wp2
            go_ret
            exact ⟨ret_bool (chainB_no (by omega) HN.out).symm, hb.trans (b1.mono hb.size)⟩
          | false =>
            rw [hh] at C3
            by_cases h0 : k = 0
            · have hd0 : decide (0 < k) = false := by simp; omega
              have HN := Lib.hid (show okC xs day zs k = true by simp only [okC, hz]; rw [hp, hh]; simp [h0])
              clear hz hp hh h0
              go_wp2_with fail
              refine wp_region_lat wr.heap.size (by kernel_rfl) (by kernel_rfl) ?_
              have LC := fun (u : Lat wr.heap.size wr) => u.cell
              repeat (go_big_quiet_step ((first | (go_at_call 71; (with_reducible exact lat_same _ (C2.out _))) | (go_at_call 30; (with_reducible exact lat_same _ (C3.out _ (HRD.out _ (Lat.below _))))) | fail)))
              refine wpQuiet_nil ?_
              intro w1 b1
              clear LC
              go_wp2
              go_roundw
              case rel =>
                refine ⟨k + 1, by omega, by go_num, rfl, fun j hj => ?_, hb.trans (b1.mono hb.size)⟩
                rcases Nat.lt_or_ge j k with h | h
                · exact HR.out j h
                · obtain rfl : j = k := by omega
                  exact HN.out
              case measure => simp [intOf]; omega
            · have hd0 : decide (0 < k) = true := by simp; omega
              have hk0 : 0 < k := by omega
              obtain ⟨y, hy⟩ : ∃ y, zs[k - 1]? = some y := ⟨zs[k - 1], List.getElem?_eq_getElem (by omega)⟩
              obtain ⟨g', o', hBe', hg', c1⟩ := (hB.below hb).at1 hy
              injection hBe' with hBe'
              injection hBe' with hB1 hB2
              subst hB1; subst hB2
              have C4 := Lib.hid (fun w h => l25At_any A n c xs y z day w hn h h20)
              have HOK := Lib.hid (show okC xs day zs k = decide (0 ≤ atV xs y z day) by simp [okC, hz, hp, hh, hy, h0])
              obtain ⟨t, ht⟩ : ∃ t, t = atV xs y z day := ⟨_, rfl⟩
              rw [← ht] at C4 HOK
              clear hz hp hh h0 hy ht
              by_cases hneg : t < 0
              · have HN := Lib.hid (HOK.out.trans (show _ = false by simp; omega))
                have hd1 : decide (t < 0) = true := by simp [hneg]
                go_wp2_with fail
                refine wp_region_lat wr.heap.size (by kernel_rfl) (by kernel_rfl) ?_
                have LC := fun (u : Lat wr.heap.size wr) => u.cell
                repeat (go_big_quiet_step ((first | (go_at_call 71; (with_reducible exact lat_same _ (C2.out _))) | (go_at_call 30; (with_reducible exact lat_same _ (C3.out _ (HRD.out _ (Lat.below _))))) | (go_at_call 52; (with_reducible exact lat_call _ (Nat.le_refl _) (C4.out _ (HAB.out _ (Lat.below _))))) | fail)))
                refine wpQuiet_nil ?_
                intro w1 b1
                clear LC
                go_wp2
                go_ret
                exact ⟨ret_bool (chainB_no (by omega) HN.out).symm, hb.trans (b1.mono hb.size)⟩
              · have HN := Lib.hid (HOK.out.trans (show _ = true by simp; omega))
                have hd1 : decide (t < 0) = false := by simp; omega
                go_wp2_with fail
                refine wp_region_lat wr.heap.size (by kernel_rfl) (by kernel_rfl) ?_
                have LC := fun (u : Lat wr.heap.size wr) => u.cell
                repeat (go_big_quiet_step ((first | (go_at_call 71; (with_reducible exact lat_same _ (C2.out _))) | (go_at_call 30; (with_reducible exact lat_same _ (C3.out _ (HRD.out _ (Lat.below _))))) | (go_at_call 52; (with_reducible exact lat_call _ (Nat.le_refl _) (C4.out _ (HAB.out _ (Lat.below _))))) | fail)))
                refine wpQuiet_nil ?_
                intro w1 b1
                clear LC
                go_wp2
                go_roundw
                case rel =>
                  refine ⟨k + 1, by omega, by go_num, rfl, fun j hj => ?_, hb.trans (b1.mono hb.size)⟩
                  rcases Nat.lt_or_ge j k with h | h
                  · exact HR.out j h
                  · obtain rfl : j = k := by omega
                    exact HN.out
                case measure => simp [intOf]; omega
      · have HE := Lib.hid (show chainB xs day zs = true from (by
          simp only [chainB, Bool.and_eq_true, decide_eq_true_eq, List.all_eq_true, List.mem_range]
          exact ⟨by omega, fun i hi => HR.out i (by omega)⟩))
        go_wp2
        go_ret
        exact ⟨ret_bool HE.out.symm, hb⟩
  · have C1 := Lib.hid (fun w => l1In_any (m : Int) 2 9 w)
    rw [inR_false.2 (show ¬ ((2 : Int) ≤ m ∧ (m : Int) ≤ 9) by omega)] at C1
    have HE := Lib.hid (show chainB xs day zs = false by simp only [chainB, Bool.and_eq_false_iff, decide_eq_false_iff_not]; left; omega)
    clear hlen
    go_enter Try.func51, Try.ntmps51
    go_wp2_with fail
    refine (C1.out _).mono ?_
    rintro e w' ⟨rfl, rfl⟩
    go_wp2
    go_ret
    exact ⟨ret_bool HE.out.symm, Below.refl _ _⟩

set_option maxRecDepth 20000 in
set_option maxHeartbeats 4000000 in
theorem specSharesOf_any (A : Option Addr) (n c : Nat) (xs : List R5) (B : Option Addr) (m cm : Nat) (zs : List Int) (day p : Int) (w : World) (hn : xs.length = n) (hA : Rd w A (cells5 xs)) (h20 : n ≤ 1048576) (hm : zs.length = m) (hB : Rd w B (cells1 zs)) (hm20 : m ≤ 1048576) (hcm : m ≤ cm) (hcm2 : cm ≤ maxLen) :
    Calls Try.prog 17 #[.slice A n c, .slice B m cm, .int .i64 day, .int .i64 p] w (RetOwnB 3 1 (shV xs zs day p).length (cells1 (shV xs zs day p)) (shB xs zs day p) w) := by
  have HE := Lib.hid (own_empty w w.heap.size 3 1 (Nat.le_refl _))
  cases hS : shB xs zs day p with
  | false =>
    rw [show shV xs zs day p = [] by simp [shV, hS]]
    have HS := Lib.hid hS
    clear hS
    have C4 := Lib.hid (fun w h1 h2 => l25IsChain_any A n c xs B m cm zs day w hn h1 h20 hm h2 hm20 hcm hcm2)
    go_enter Try.func17, Try.ntmps17
    go_wp2_with fail
    refine (l25Good_any A n c xs _ hn (hA.alloc _) h20).mono ?_
    rintro e w1 ⟨rfl, b1⟩
    have hb1 := ((Below.refl w.heap.size w).alloc (Nat.le_refl _) (Obj.cells #[] 3)).trans (b1.mono (by simp))
    have HE1 := Lib.hid (own_below HE.out b1)
    go_wp2_with (first
      | (go_at_call 29; refine (l2Day_any _ _).mono ?_; rintro e w' ⟨rfl, rfl⟩)
      | (go_at_call 50; refine (l1In_any _ _ _ _).mono ?_; rintro e w' ⟨rfl, rfl⟩)
      | (go_at_call 51; refine (C4.out _ (hA.below hb1) (hB.below hb1)).mono ?_; rintro e w2 ⟨rfl, b2⟩)
      | fail)
    any_goals (first | (go_ret2; exact ⟨_, rfl, HE1.out, hb1⟩) | fail)
    · go_ret2
      exact ⟨.slice (some ⟨w.heap.size, 0, none⟩) 0 0, rfl, own_below HE1.out b2, hb1.trans (b2.mono hb1.size)⟩
    · exfalso
      have e1 : trL xs = true := by assumption
      have e2 : inR day 0 4000 = true := by assumption
      have e3 : inR p 0 99999 = true := by assumption
      have e4 : (!chainB xs day zs) = false := by assumption
      have h9 := HS.out
      rw [shB, e1, e2, e3, Bool.true_and, Bool.true_and, Bool.true_and] at h9
      rw [h9] at e4
      cases e4
  | true =>
    have hS' := hS
    simp only [shB, Bool.and_eq_true] at hS'
    obtain ⟨hv, hd, hp, hc⟩ := hS'
    obtain ⟨⟨l2, l9⟩, hok⟩ := chainB_at hc
    have C0 := Lib.hid (fun w h => l25Good_any A n c xs w hn h h20)
    have C1 := Lib.hid (fun w => l2Day_any day w)
    have C2 := Lib.hid (fun w => l1In_any p 0 99999 w)
    have C3 := Lib.hid (fun w h1 h2 => l25IsChain_any A n c xs B m cm zs day w hn h1 h20 hm h2 hm20 hcm hcm2)
    rw [hv] at C0
    rw [hd] at C1
    rw [hp] at C2
    rw [hc] at C3
    have HV := Lib.hid hv
    have HOK := Lib.hid hok
    have HZ := Lib.hid (ShRel.zero (xs := xs) (day := day) (zs := zs) (inR_true.1 hp))
    rw [show shV xs zs day p = shL xs day zs p by simp [shV, hS]]
    rw [hm] at l2 l9
    have HLEN := Lib.hid (length_shL xs day zs p)
    clear hS hv hd hp hc hok
    go_enter Try.func17, Try.ntmps17
    go_wp2_with fail
    refine (C0.out _ (hA.alloc _)).mono ?_
    rintro e w1 ⟨rfl, b1⟩
    have hb1 := ((Below.refl w.heap.size w).alloc (Nat.le_refl _) (Obj.cells #[] 3)).trans (b1.mono (by simp))
    have HE1 := Lib.hid (own_below HE.out b1)
    go_wp2_with fail
    refine (C1.out _).mono ?_
    rintro e w' ⟨rfl, rfl⟩
    go_wp2_with fail
    refine (C2.out _).mono ?_
    rintro e w' ⟨rfl, rfl⟩
    go_wp2_with fail
    refine (C3.out _ (hA.below hb1) (hB.below hb1)).mono ?_
    rintro e w2 ⟨rfl, b2⟩
    have HS2 := Lib.hid (show ShOut w 3 [] _ w2 from ⟨own_below HE1.out b2, hb1.trans (b2.mono hb1.size)⟩)
    clear b1 b2 hb1
    go_wp2_with fail
    go_loopw [10, 11, 12, 13] (fun o l i _ wr => ∃ (V : Value) (k : Nat) (out : List Int) (left : Int), V = o ∧ 1 ≤ k ∧ k ≤ m ∧ i = .int .i64 k ∧ l = .int .i64 left ∧ ShRel xs day zs p (k - 1) out left ∧ ShOut w 3 out V wr) (fun _ _ i _ _ => m - (intOf i).toNat)
    case atStart => exact ⟨_, 1, [], p, rfl, by omega, by omega, rfl, rfl, HZ.out, HS2.out⟩
    case round =>
      obtain ⟨V, k, out, left, rfl, hk1, hk, rfl, rfl, hrel, hso⟩ := hrel
      have HR := Lib.hid hrel
      have HSO := Lib.hid hso
      have hb := hso.2
      obtain ⟨-, hol, hl0, hl9⟩ := hrel
      have HOL := Lib.hid hol
      have holen : out.length ≤ 9 := by omega
      clear hol hso
      by_cases hlt : k < m
      · obtain ⟨z, hz⟩ : ∃ z, zs[k]? = some z := ⟨zs[k], List.getElem?_eq_getElem (by omega)⟩
        obtain ⟨y, hy⟩ : ∃ y, zs[k - 1]? = some y := ⟨zs[k - 1], List.getElem?_eq_getElem (by omega)⟩
        have hek : k - 1 + 1 = k := by omega
        obtain ⟨q, x, hq, hx⟩ := at_hit (okC_link (HOK.out (k - 1 + 1) (by omega)) (by rw [hek]; exact hz) hy)
        obtain ⟨g, o, hBe, hg, c0⟩ := (hB.below hb).at1 hz
        obtain ⟨g', o', hBe', hg', c1⟩ := (hB.below hb).at1 hy
        rw [hBe] at hBe'
        injection hBe' with hBe'
        injection hBe' with hB1 hB2
        subst hB1; subst hB2
        obtain ⟨ga, oa, hAe, hga, a0, a1, a2, a3, a4⟩ := (hA.below hb).at5 hx
        obtain ⟨-, -, -, -, -, -, e1, e2⟩ := trB_bd (trL_at HV.out hx)
        obtain ⟨⟨k1, k2⟩, k3, k4⟩ := keep_bd ⟨hl0, hl9⟩ ⟨e1, e2⟩
        have C4 := Lib.hid (fun w h => l25At_any A n c xs y z day w hn h h20)
        rw [hq] at C4
        have hqn : q < n := by have := (List.getElem?_eq_some_iff.1 hx).1; omega
        have HST := Lib.hid (HR.out.step hy (by rw [hek]; exact hz) (shareV_at hq hx) ⟨e1, e2⟩)
        rw [hek] at HST
        have HAB := Lib.hid (fun (W : World) (h : Below wr.heap.size wr W) => (hA.below hb).below h)
        have hw1 := IntWalk.i64_in (left * x.e) (by omega)
        have hw2 := IntWalk.i64_in (left * x.e / 100) (by omega)
        have hw3 : (left * x.e).tdiv 100 = left * x.e / 100 := Int.tdiv_eq_ediv_of_nonneg k1
        subst hBe; subst hAe
        clear hz hy hq hx hek a0 a1 a2 a3
        go_wp2_with fail
        refine wp_region_lat wr.heap.size (by kernel_rfl) (by kernel_rfl) ?_
        have LC := fun (u : Lat wr.heap.size wr) => u.cell
        repeat (go_big_quiet_step ((first | (go_at_call 52; (with_reducible exact lat_call _ (Nat.le_refl _) (C4.out _ (HAB.out _ (Lat.below _))))) | fail)))
        refine wpQuiet_nil ?_
        intro w3 b3
        clear LC c0 c1 a4 hw1 hw2 hw3
        have HO3 := Lib.hid (own_below HSO.out.1 b3)
        have HO4 := Lib.hid (fun o => HO3.out.alloc o)
        have hs3 := (hb.trans (b3.mono hb.size)).size
        obtain ⟨kp, hkp⟩ : ∃ kp, kp = left * x.e / 100 := ⟨_, rfl⟩
        rw [← hkp] at k3 k4 HST
        rw [← hkp]
        clear hkp k1 k2
        go_wp2_with (at_builtin; go_must (refine wpList_app _ rfl (.tmp 62) (.tmp 64) 36 rfl w.heap.size 3 _ 1 8 Try.underlying36 infoI rfl (by omega) _ _ _ rfl (HO4.out _) _ 1 1 [.int .i64 kp] rfl rfl (rd_new #[.int .i64 kp] 3 (by simp)) (oneCell_ints [kp]) (by unfold maxLen; omega) (by omega) (by simp; omega) ?_); intro v' w' o' g' d')
        have HN := Lib.hid (HSO.out.app (b3.alloc b3.size _) (HO4.out _) o' g')
        go_roundw
        case rel => exact ⟨_, k + 1, out ++ [kp], left - kp, rfl, by omega, by omega, by go_num, by go_num, by rw [Nat.add_sub_cancel]; exact HST.out, HN.out⟩
        case measure => simp [intOf]; omega
      · obtain rfl : k = m := by omega
        have HL := Lib.hid (HR.out.last (by omega))
        have HO4 := Lib.hid (fun o => HSO.out.1.alloc o)
        have hs3 := hb.size
        go_wp2_with (at_builtin; go_must (refine wpList_app _ rfl (.tmp 69) (.tmp 71) 36 rfl w.heap.size 3 _ 1 8 Try.underlying36 infoI rfl (by omega) _ _ _ rfl (HO4.out _) _ 1 1 [.int .i64 left] rfl rfl (rd_new #[.int .i64 left] 3 (by simp)) (oneCell_ints [left]) (by unfold maxLen; omega) (by omega) (by simp; omega) ?_); intro v' w' o' g' d')
        go_ret2
        refine ⟨_, rfl, ?_, (hb.alloc hb.size _).trans (below_app (HO4.out _) g' (by simp; omega) (Nat.le_refl _))⟩
        rw [HL.out, List.length_append, cells1_append]
        exact o'
end Go.Proofs.Ytpmklcpplpnlhaa
