/- Stock book: whether a stamp has room; the tight strip. -/
import Derived.Test.YtacacibpehnmgaaGreatDoorStoD
import Derived.Test.YtacacibpehnmgaaGreatDoorList
namespace Go.Proofs.YtacacibpehnmgaaGreatDoor
set_option linter.unusedVariables false
set_option linter.unusedSimpArgs false
open Go.RowKit

theorem cells1_snoc (ws : List Int) (x : Int) : cells1 ws ++ [.int .i64 x] = cells1 (ws ++ [x]) := by rw [cells1_append]; rfl

set_option maxHeartbeats 1000000 in
theorem l1Own_any (A : Option Addr) (n c : Nat) (zs : List Int) (w : World) (hn : zs.length = n) (hA : Rd w A (cells1 zs)) (h20 : n ≤ 1048576) :
    Calls Tryz.prog 40 #[.slice A n c] w (RetOwn 3 1 n (cells1 zs) w) := by
  have HE := Lib.hid (own_empty w w.heap.size 3 1 (Nat.le_refl _))
  have HR := Lib.hid (fun o => hA.alloc o)
  have HL := Lib.hid (show (cells1 zs).length = n * 1 by rw [length_cells1, hn, Nat.mul_one])
  clear hA hn
  go_enter Tryz.func40, Tryz.ntmps40
  go_wp2_with (at_builtin; go_must (refine wpList_app _ rfl (.tmp 3) (.tmp 4) 25 rfl w.heap.size 3 _ 1 8 Tryz.underlying25 infoI rfl (by omega) _ _ _ rfl HE.out _ n c (cells1 zs) rfl HL.out (HR.out _) (oneCell_ints zs) (by unfold maxLen; omega) (by omega) (by simp) ?_); intro v' w' o' g' d')
  go_ret
  refine ⟨_, rfl, by simpa using o', ((Below.refl _ _).alloc (Nat.le_refl _) _).trans (below_app HE.out g' (by simp) (Nat.le_refl _))⟩

set_option maxHeartbeats 1000000 in
theorem l27Room_any (A : Option Addr) (n c : Nat) (ws : List Int) (x : Int) (w : World) (hn : ws.length = n) (hA : Rd w A (cells1 ws)) (h20 : n ≤ 1048576) :
    Calls Tryz.prog 47 #[.slice A n c, .int .i64 x] w (Ret (.bool (roomB ws x)) w) := by
  have HA := Lib.hid hA
  have HN := Lib.hid hn
  clear hA hn
  go_enter Tryz.func47, Tryz.ntmps47
  go_wp2_with fail
  refine (l1Own_any A n c ws _ HN.out HA.out h20).mono ?_
  rintro e w1 ⟨v, rfl, o1, b1⟩
  have HO1 := Lib.hid (fun q => own_below o1 ((Below.refl _ _).alloc (Nat.le_refl _) q))
  have hs1 := b1.size
  have HL := Lib.hid o1
  clear o1
  go_wp2_with (at_builtin; go_must (refine wpList_app _ rfl (.tmp 6) (.tmp 8) 25 rfl w.heap.size 3 _ 1 8 Tryz.underlying25 infoI rfl (by omega) _ _ _ rfl (HO1.out _) _ 1 1 [.int .i64 x] rfl rfl (rd_new #[.int .i64 x] 3 (by simp)) (oneCell_ints [x]) (by unfold maxLen; omega) (by omega) (by simp; omega) ?_); intro v' w' o' g' d')
  obtain ⟨A', c', rfl⟩ := own_form o'
  rw [cells1_snoc] at o'
  have HB := Lib.hid (b1.trans (((Below.refl w1.heap.size w1).alloc (Nat.le_refl _) _).mono hs1 |>.trans (below_app (HO1.out _) g' (by simp; omega) (Nat.le_refl _))))
  have HO := Lib.hid o'
  clear o' g' d' HO1
  go_wp2_with fail
  refine (l27Row_any A' (n + 1) c' (ws ++ [x]) _ (by have := HN.out; simp; omega) (Rd.of_own HO.out) (by omega)).mono ?_
  rintro e w3 ⟨rfl, rfl⟩
  go_wp2
  go_ret
  exact ⟨rfl, HB.out⟩

set_option maxHeartbeats 1000000 in
theorem hasRoom_any (A : Option Addr) (n c : Nat) (ws : List Int) (x : Int) (w : World) (hn : ws.length = n) (hA : Rd w A (cells1 ws)) (h20 : n ≤ 1048576) :
    Calls Tryz.prog 46 #[.slice A n c, .int .i64 x] w (Ret (.bool (roomB ws x)) w) := by
  have HA := Lib.hid hA
  have HN := Lib.hid hn
  clear hA hn
  go_enter Tryz.func46, Tryz.ntmps46
  go_wp2_with fail
  refine (cloneInt_any A n c ws _ HN.out HA.out h20).mono ?_
  rintro e w1 ⟨v, rfl, o1, b1⟩
  have HO1 := Lib.hid (fun q => own_below o1 ((Below.refl _ _).alloc (Nat.le_refl _) q))
  have hs1 := b1.size
  have HL := Lib.hid o1
  clear o1
  go_wp2_with (at_builtin; go_must (refine wpList_app _ rfl (.tmp 6) (.tmp 8) 25 rfl w.heap.size 3 _ 1 8 Tryz.underlying25 infoI rfl (by omega) _ _ _ rfl (HO1.out _) _ 1 1 [.int .i64 x] rfl rfl (rd_new #[.int .i64 x] 3 (by simp)) (oneCell_ints [x]) (by unfold maxLen; omega) (by omega) (by simp; omega) ?_); intro v' w' o' g' d')
  obtain ⟨A', c', rfl⟩ := own_form o'
  rw [cells1_snoc] at o'
  have HB := Lib.hid (b1.trans (((Below.refl w1.heap.size w1).alloc (Nat.le_refl _) _).mono hs1 |>.trans (below_app (HO1.out _) g' (by simp; omega) (Nat.le_refl _))))
  have HO := Lib.hid o'
  clear o' g' d' HO1
  go_wp2_with fail
  refine (areWidths_any A' (n + 1) c' (ws ++ [x]) _ (by have := HN.out; simp; omega) (Rd.of_own HO.out) (by omega)).mono ?_
  rintro e w3 ⟨rfl, rfl⟩
  go_wp2
  go_ret
  exact ⟨rfl, HB.out⟩

/-- How much the tight strip among the first k has, or -1. -/
def mostB (xs : List BR) (t : Int) : Int := if t < 0 then -1 else endV (atB xs t).ws
theorem rows_end {xs : List BR} (h : rowsB xs) {x : BR} (hx : x ∈ xs) : 0 ≤ endV x.ws ∧ endV x.ws ≤ 200 ∧ x.ws.length ≤ 12 ∧ ∀ v ∈ x.ws, wdB v = true := by
  obtain ⟨r1, r2, r3⟩ := rowB_yes (h x hx)
  exact ⟨(endV_bd r1 (by omega)).1, r3, r2, r1⟩
theorem mostB_bd {xs : List BR} (h : rowsB xs) {t : Int} (h1 : -1 ≤ t) (h2 : t < xs.length) : -1 ≤ mostB xs t ∧ mostB xs t ≤ 200 := by
  unfold mostB
  split
  · omega
  · have := rows_end h (atB_mem (by omega) h2).1; omega

set_option maxHeartbeats 2000000 in
theorem l27Tight_any (A : Option Addr) (n c : Nat) (xs : List BR) (z : Int) (w : World) (hn : xs.length = n) (hA : RdB w A xs) (h20 : n ≤ 1048576) (hr : rowsB xs) :
    Calls Tryz.prog 39 #[.slice A n c, .int .i64 z] w (Ret (.int .i64 (tightV xs z)) w) := by
  have HN := Lib.hid hn
  have HRB := Lib.hid hr
  clear hn hr
  go_enter Tryz.func39, Tryz.ntmps39
  go_wp2_with fail
  go_loopw [5, 6, 7, 8] (fun b m i _ wr => ∃ k : Nat, k ≤ n ∧ i = .int .i64 k ∧ b = .int .i64 (tiN xs z k) ∧ m = .int .i64 (mostB xs (tiN xs z k)) ∧ Below w.heap.size w wr) (fun _ _ i _ _ => n - (intOf i).toNat)
  case atStart => exact ⟨0, Nat.zero_le _, rfl, rfl, rfl, Below.refl _ _⟩
  case round =>
    obtain ⟨k, hk, rfl, rfl, rfl, hb⟩ := hrel
    have ht := tiN_bd xs z k
    have hm := mostB_bd HRB.out ht.1 ht.2.2
    by_cases hlt : k < n
    · obtain ⟨x, hxk⟩ : ∃ x, xs[k]? = some x := ⟨xs[k]'(by have := HN.out; omega), List.getElem?_eq_getElem _⟩
      obtain ⟨g, o, B, cc, rfl, hg, c0, c1, -, -, hrd⟩ := (hA.below hb).at hxk
      have HX := Lib.hid hxk
      have HRD := Lib.hid hrd
      obtain ⟨e1, e2, e3, e4⟩ := rows_end HRB.out (List.mem_of_getElem? hxk)
      have E4 := Lib.hid e4
      have HY := Lib.hid (fun h1 h2 => tiN_yes (w := z) hxk h1 h2)
      have HZ := Lib.hid (fun h1 => tiN_room (w := z) hxk h1)
      have HW := Lib.hid (fun h1 h2 => tiN_no (w := z) hxk h1 h2)
      have hend : endV (atB xs (k : Int)).ws = endV x.ws := by rw [atB_at hxk]
      have HEND := Lib.hid hend
      obtain ⟨t, htt⟩ : ∃ t, t = tiN xs z k := ⟨_, rfl⟩
      rw [← htt] at ht hm HY HZ HW ⊢
      have hmo : 0 ≤ t → mostB xs t = endV (atB xs t).ws := fun h => by rw [mostB, if_neg (by omega)]
      have hmn : t < 0 → mostB xs t = -1 := fun h => by rw [mostB, if_pos h]
      have hmk : mostB xs (k : Int) = endV x.ws := by rw [mostB, if_neg (by omega), hend]
      obtain ⟨M, hMM⟩ : ∃ M, M = mostB xs t := ⟨_, rfl⟩
      rw [← hMM] at hm hmo hmn ⊢
      have HMM := Lib.hid hMM
      have HMO := Lib.hid hmo
      have HMN := Lib.hid hmn
      have HMK := Lib.hid hmk
      clear hxk hrd e4 htt hMM hmo hmn hend hA hmk
      go_wp2_with fail
      refine (l27End_any B x.ws.length cc x.ws _ rfl HRD.out (by omega) E4.out).mono ?_
      rintro e w1 ⟨rfl, rfl⟩
      obtain ⟨q, hq⟩ : ∃ q, q = roomB x.ws z := ⟨_, rfl⟩
      have C := Lib.hid (fun w h => l27Room_any B x.ws.length cc x.ws z w rfl h (by omega))
      rw [← hq] at C
      have HQ := Lib.hid hq.symm
      obtain ⟨E, hEE⟩ : ∃ E, E = endV x.ws := ⟨_, rfl⟩
      rw [← hEE] at e1 e2 HW HY HMK ⊢
      have HEE := Lib.hid hEE
      clear hq hEE
      cases q with
      | false =>
        have HZ' := Lib.hid (HZ.out HQ.out)
        go_wp2_with fail
        refine (C.out _ HRD.out).mono ?_
        rintro e w2 ⟨rfl, b2⟩
        clear C HRD
        go_wp2
        go_roundw
        case rel => exact ⟨k + 1, by omega, by go_num, by rw [HZ'.out], by rw [HZ'.out, HMM.out], hb.trans (b2.mono hb.size)⟩
        case measure => simp [intOf]; omega
      | true =>
        by_cases hlt2 : M < E
        · have HY' := Lib.hid (HY.out HQ.out (by
            rcases Int.lt_or_le t 0 with h | h
            · exact .inl h
            · right; rw [← HMO.out h]; exact hlt2))
          go_wp2_with fail
          refine (C.out _ HRD.out).mono ?_
          rintro e w2 ⟨rfl, b2⟩
          clear C HRD
          go_wp2
          go_roundw
          case rel => exact ⟨k + 1, by omega, by go_num, by rw [HY'.out], by rw [HY'.out, HMK.out], hb.trans (b2.mono hb.size)⟩
          case measure => simp [intOf]; omega
        · have ht0 : 0 ≤ t := by
            rcases Int.lt_or_le t 0 with h | h
            · have := HMN.out h; omega
            · exact h
          have HW' := Lib.hid (HW.out ht0 (by rw [← HMO.out ht0]; omega))
          go_wp2_with fail
          refine (C.out _ HRD.out).mono ?_
          rintro e w2 ⟨rfl, b2⟩
          clear C HRD
          go_wp2
          go_roundw
          case rel => exact ⟨k + 1, by omega, by go_num, by rw [HW'.out], by rw [HW'.out, HMM.out], hb.trans (b2.mono hb.size)⟩
          case measure => simp [intOf]; omega
    · go_wp2
      go_ret
      exact ⟨ret_int (by rw [tightV, HN.out, show k = n by omega]), hb⟩

set_option maxRecDepth 20000 in
set_option maxHeartbeats 2000000 in
theorem tightStrip_any (A : Option Addr) (n c : Nat) (xs : List BR) (z : Int) (w : World) (hn : xs.length = n) (hA : RdB w A xs) (h20 : n ≤ 1048576) (hr : rowsB xs) :
    Calls Tryz.prog 35 #[.slice A n c, .int .i64 z] w (Ret (.int .i64 (tightV xs z)) w) := by
  have HN := Lib.hid hn
  have HRB := Lib.hid hr
  clear hn hr
  go_enter Tryz.func35, Tryz.ntmps35
  go_wp2_with fail
  go_loopw [5, 10, 6, 7] (fun b i _ _ wr => ∃ k : Nat, k ≤ n ∧ i = .int .i64 k ∧ b = .int .i64 (tiN xs z k) ∧ Below w.heap.size w wr) (fun _ i _ _ _ => n - (intOf i).toNat)
  case atStart => exact ⟨0, Nat.zero_le _, rfl, rfl, Below.refl _ _⟩
  case round =>
    obtain ⟨k, hk, rfl, rfl, hb⟩ := hrel
    have ht := tiN_bd xs z k
    by_cases hlt : k < n
    · obtain ⟨x, hxk⟩ : ∃ x, xs[k]? = some x := ⟨xs[k]'(by have := HN.out; omega), List.getElem?_eq_getElem _⟩
      obtain ⟨g, o, B, cc, hAe, hg, c0, c1, -, -, hrd⟩ := (hA.below hb).at hxk
      subst hAe
      have HX := Lib.hid hxk
      have HRD := Lib.hid (hrd.alloc (.cells #[.int .i64 x.id, .slice B x.ws.length cc] 34))
      obtain ⟨e1, e2, e3, e4⟩ := rows_end HRB.out (List.mem_of_getElem? hxk)
      have E4 := Lib.hid e4
      have HY := Lib.hid (fun h1 h2 => tiN_yes (w := z) hxk h1 h2)
      have HZ := Lib.hid (fun h1 => tiN_room (w := z) hxk h1)
      have HW := Lib.hid (fun h1 h2 => tiN_no (w := z) hxk h1 h2)
      have hb1 : Below w.heap.size w (wr.alloc (.cells #[.int .i64 x.id, .slice B x.ws.length cc] 34)) := hb.alloc hb.size _
      have HSZ := Lib.hid (show (wr.alloc (.cells #[.int .i64 x.id, .slice B x.ws.length cc] 34)).heap.size = wr.heap.size + 1 by simp)
      obtain ⟨t, htt⟩ : ∃ t, t = tiN xs z k := ⟨_, rfl⟩
      rw [← htt] at ht HY HZ HW ⊢
      have C := Lib.hid (fun w h => hasRoom_any B x.ws.length cc x.ws z w rfl h (by omega))
      have C1 := Lib.hid (fun w h => restOf_wd B x.ws.length cc x.ws w rfl h (by omega) E4.out)
      obtain ⟨q, hq⟩ : ∃ q, q = roomB x.ws z := ⟨_, rfl⟩
      rw [← hq] at C
      have HQ := Lib.hid hq.symm
      clear hxk hrd e4 htt hq
      cases q with
      | false =>
        have HZ' := Lib.hid (HZ.out HQ.out)
        clear hA
        go_wp2_with fail
        refine wp_region_lat (wr.heap.size + 1) (by kernel_rfl) (by kernel_rfl) ?_
        have LC := fun (u : Lat (wr.heap.size + 1) (wr.alloc (.cells #[.int .i64 x.id, .slice B x.ws.length cc] 34))) => u.cell
        repeat (go_big_quiet_step ((go_at_call 46; exact lat_call _ (by simp) (C.out _ (HRD.out.below (Below.mono (Lat.below _) (by rw [HSZ.out]; exact Nat.le_refl _)))))))
        refine wpQuiet_nil ?_
        intro w1 hw1
        clear LC
        go_wp2
        go_roundw
        case rel => exact ⟨k + 1, by omega, by go_num, by rw [HZ'.out], hb1.trans (hw1.mono (by have := hb.size; omega))⟩
        case measure => simp [intOf]; omega
      | true =>
        rcases Int.lt_or_le t 0 with ht0 | ht0
        · have HY' := Lib.hid (HY.out HQ.out (.inl ht0))
          have hd : decide (t < 0) = true := by simpa using ht0
          clear hA
          go_wp2_with fail
          refine wp_region_lat (wr.heap.size + 1) (by kernel_rfl) (by kernel_rfl) ?_
          have LC := fun (u : Lat (wr.heap.size + 1) (wr.alloc (.cells #[.int .i64 x.id, .slice B x.ws.length cc] 34))) => u.cell
          repeat (go_big_quiet_step ((go_at_call 46; exact lat_call _ (by simp) (C.out _ (HRD.out.below (Below.mono (Lat.below _) (by rw [HSZ.out]; exact Nat.le_refl _)))))))
          refine wpQuiet_nil ?_
          intro w1 hw1
          clear LC
          go_wp2
          go_roundw
          case rel => exact ⟨k + 1, by omega, by go_num, by rw [HY'.out], hb1.trans (hw1.mono (by have := hb.size; omega))⟩
          case measure => simp [intOf]; omega
        · have hd : decide (t < 0) = false := by simpa using ht0
          obtain ⟨j, rfl⟩ : ∃ j : Nat, t = j := ⟨t.toNat, by omega⟩
          have hjl : j < xs.length := by omega
          have hjn : j < n := by have := HN.out; omega
          obtain ⟨y, hyk⟩ : ∃ y, xs[j]? = some y := ⟨xs[j], List.getElem?_eq_getElem hjl⟩
          obtain ⟨f1, f2, f3, f4⟩ := rows_end HRB.out (List.mem_of_getElem? hyk)
          have F4 := Lib.hid f4
          obtain ⟨g', o', B', cc', hA', hg', d0, d1, -, -, hrd'⟩ := (hA.below hb).at hyk
          injection hA' with hA'
          injection hA' with hA1 hA2
          subst hA1; subst hA2
          have HRD' := Lib.hid (hrd'.alloc (.cells #[.int .i64 x.id, .slice B x.ws.length cc] 34))
          have C2 := Lib.hid (fun w h => restOf_wd B' y.ws.length cc' y.ws w rfl h (by omega) F4.out)
          have hat : atB xs (j : Int) = y := atB_at hyk
          rw [hat] at HW HY
          obtain ⟨E, hEE⟩ : ∃ E, E = endV x.ws := ⟨_, rfl⟩
          obtain ⟨D, hDD⟩ : ∃ D, D = endV y.ws := ⟨_, rfl⟩
          rw [← hEE] at C1 e1 e2 HW HY
          rw [← hDD] at C2 f1 f2 HW HY
          clear hat hEE hDD hyk hrd' f4 hA hjl
          by_cases hlt2 : D < E
          · have HY' := Lib.hid (HY.out HQ.out (.inr hlt2))
            have hd2 : decide (200 - E < 200 - D) = true := by simp; omega
            go_wp2_with fail
            refine wp_region_lat (wr.heap.size + 1) (by kernel_rfl) (by kernel_rfl) ?_
            have LC := fun (u : Lat (wr.heap.size + 1) (wr.alloc (.cells #[.int .i64 x.id, .slice B x.ws.length cc] 34))) => u.cell
            repeat (go_big_quiet_step ((first
              | (go_at_call 46; exact lat_call _ (by simp) (C.out _ (HRD.out.below (Below.mono (Lat.below _) (by rw [HSZ.out]; exact Nat.le_refl _)))))
              | (go_at_call 51; (with_reducible exact lat_same _ (C1.out _ (HRD.out.below (Below.mono (Lat.below _) (by rw [HSZ.out]; exact Nat.le_refl _))))))
              | (go_at_call 51; (with_reducible exact lat_same _ (C2.out _ (HRD'.out.below (Below.mono (Lat.below _) (by rw [HSZ.out]; exact Nat.le_refl _)))))))))
            refine wpQuiet_nil ?_
            intro w1 hw1
            clear LC
            go_wp2
            go_roundw
            case rel => exact ⟨k + 1, by omega, by go_num, by rw [HY'.out], hb1.trans (hw1.mono (by have := hb.size; omega))⟩
            case measure => simp [intOf]; omega
          · have HW' := Lib.hid (HW.out ht0 (by omega))
            have hd2 : decide (200 - E < 200 - D) = false := by simp; omega
            go_wp2_with fail
            refine wp_region_lat (wr.heap.size + 1) (by kernel_rfl) (by kernel_rfl) ?_
            have LC := fun (u : Lat (wr.heap.size + 1) (wr.alloc (.cells #[.int .i64 x.id, .slice B x.ws.length cc] 34))) => u.cell
            repeat (go_big_quiet_step ((first
              | (go_at_call 46; exact lat_call _ (by simp) (C.out _ (HRD.out.below (Below.mono (Lat.below _) (by rw [HSZ.out]; exact Nat.le_refl _)))))
              | (go_at_call 51; (with_reducible exact lat_same _ (C1.out _ (HRD.out.below (Below.mono (Lat.below _) (by rw [HSZ.out]; exact Nat.le_refl _))))))
              | (go_at_call 51; (with_reducible exact lat_same _ (C2.out _ (HRD'.out.below (Below.mono (Lat.below _) (by rw [HSZ.out]; exact Nat.le_refl _)))))))))
            refine wpQuiet_nil ?_
            intro w1 hw1
            clear LC
            go_wp2
            go_roundw
            case rel => exact ⟨k + 1, by omega, by go_num, by rw [HW'.out], hb1.trans (hw1.mono (by have := hb.size; omega))⟩
            case measure => simp [intOf]; omega
    · go_wp2
      go_ret
      exact ⟨ret_int (by rw [tightV, HN.out, show k = n by omega]), hb⟩
end Go.Proofs.YtacacibpehnmgaaGreatDoor
