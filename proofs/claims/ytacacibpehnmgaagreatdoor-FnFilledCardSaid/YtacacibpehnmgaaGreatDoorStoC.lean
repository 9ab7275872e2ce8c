/- Stock book: the tests of a whole list, and the strip with an id. -/
import Derived.Test.YtacacibpehnmgaaGreatDoorStoB
import Derived.Test.YtacacibpehnmgaaGreatDoorBookM
namespace Go.Proofs.YtacacibpehnmgaaGreatDoor
set_option linter.unusedVariables false
set_option linter.unusedSimpArgs false
open Go.RowKit

theorem bookB_no {xs : List BR} {k : Nat} (hk : k < xs.length) (h : okA stripB idLt xs k = false) : bookB xs = false := by
  simp [bookB, allA_no hk h]
theorem bookB_long {xs : List BR} (h : 8 < xs.length) : bookB xs = false := by simp [bookB]; intros; omega
theorem bookB_end {xs : List BR} {k : Nat} (h : ARel stripB idLt xs k) (hk : xs.length ≤ k) : decide (xs.length ≤ 8) = bookB xs := by simp [bookB, h.all hk]
theorem strip_no1 {x : BR} (h : inR x.id 1 99 = false) : stripB x = false := by simp [stripB, h]
theorem strip_no2 {x : BR} (h : rowB x.ws = false) : stripB x = false := by simp [stripB, h]
theorem strip_yes {x : BR} (h : inR x.id 1 99 = true) (h' : rowB x.ws = true) : stripB x = true := by simp [stripB, h, h']

set_option maxRecDepth 20000 in
set_option maxHeartbeats 2000000 in
theorem l27Good_any (A : Option Addr) (n c : Nat) (xs : List BR) (w : World) (hn : xs.length = n) (hA : RdB w A xs) (h20 : n ≤ 1048577) (hw : ∀ x ∈ xs, x.ws.length ≤ 1048577) :
    Calls Tryz.prog 36 #[.slice A n c] w (Ret (.bool (bookB xs)) w) := by
  have HN := Lib.hid hn
  clear hn
  go_enter Tryz.func36, Tryz.ntmps36
  go_wp2_with fail
  go_loopw [3, 2] (fun i r wr => ∃ (k : Nat), k ≤ n ∧ i = .int .i64 k ∧ r = .bool false ∧ ARel stripB idLt xs k ∧ Below w.heap.size w wr) (fun i _ _ => n - (intOf i).toNat)
  case atStart => exact ⟨0, by omega, rfl, rfl, .zero, Below.refl _ _⟩
  case round =>
    obtain ⟨k, hk, rfl, rfl, hrel, hb⟩ := hrel
    have HR := Lib.hid hrel
    clear hrel
    by_cases hlt : k < n
    · by_cases hk8 : k ≤ 8
      · obtain ⟨x, hxk⟩ : ∃ x, xs[k]? = some x := ⟨xs[k]'(by have := HN.out; omega), List.getElem?_eq_getElem _⟩
        obtain ⟨g, o, B, cc, hAe, hg, c0, c1, hc1, hc2, hrd⟩ := (hA.below hb).at hxk
        subst hAe
        have HX := Lib.hid hxk
        have HRD := Lib.hid hrd
        have hwl := hw x (List.mem_of_getElem? hxk)
        have C1 := Lib.hid (fun w => l1In_any x.id 1 99 w)
        have C2 := Lib.hid (fun w h => l27Row_any B x.ws.length cc x.ws w rfl h hwl)
        have hkl : k < xs.length := by have := HN.out; omega
        clear hxk hrd hw hc1 hc2
        cases hv : inR x.id 1 99 with
        | false =>
          rw [hv] at C1
          have HV := Lib.hid (bookB_no hkl (okA_no (bef := idLt) HX.out (strip_no1 hv)))
          clear hv hkl hA
          go_wp2_with fail
          refine wp_region_lat wr.heap.size (by kernel_rfl) (by kernel_rfl) ?_
          have LC := fun (u : Lat wr.heap.size wr) => u.cell
          repeat (go_big_quiet_step ((go_at_call 60; exact lat_same _ (C1.out _))))
          refine wpQuiet_nil ?_
          intro w1 hw1
          clear LC
          go_wp2
          go_ret
          exact ⟨ret_bool HV.out.symm, hb.trans (hw1.mono hb.size)⟩
        | true =>
          rw [hv] at C1
          cases hv2 : rowB x.ws with
          | false =>
            rw [hv2] at C2
            have HV := Lib.hid (bookB_no hkl (okA_no (bef := idLt) HX.out (strip_no2 hv2)))
            clear hv hv2 hkl hA
            go_wp2_with fail
            refine wp_region_lat wr.heap.size (by kernel_rfl) (by kernel_rfl) ?_
            have LC := fun (u : Lat wr.heap.size wr) => u.cell
            repeat (go_big_quiet_step ((first | (go_at_call 60; exact lat_same _ (C1.out _)) | (go_at_call 61; exact lat_same _ (C2.out _ (HRD.out.below (Lat.below _)))))))
            refine wpQuiet_nil ?_
            intro w1 hw1
            clear LC
            go_wp2
            go_ret
            exact ⟨ret_bool HV.out.symm, hb.trans (hw1.mono hb.size)⟩
          | true =>
            rw [hv2] at C2
            have HV := Lib.hid (strip_yes hv hv2)
            clear hv hv2
            by_cases h0 : k ≤ 0
            · have hd : decide (0 < k) = false := by simp; omega
              have HO := Lib.hid (okA_first (bef := idLt) HX.out HV.out (by omega))
              clear hkl hA
              go_wp2_with fail
              refine wp_region_lat wr.heap.size (by kernel_rfl) (by kernel_rfl) ?_
              have LC := fun (u : Lat wr.heap.size wr) => u.cell
              repeat (go_big_quiet_step ((first | (go_at_call 60; exact lat_same _ (C1.out _)) | (go_at_call 61; exact lat_same _ (C2.out _ (HRD.out.below (Lat.below _)))))))
              refine wpQuiet_nil ?_
              intro w1 hw1
              clear LC
              go_wp2
              go_roundw
              case rel => exact ⟨k + 1, by omega, by go_num, rfl, HR.out.step HO.out, hb.trans (hw1.mono hb.size)⟩
              case measure => simp [intOf]; omega
            · obtain ⟨y, hyk⟩ : ∃ y, xs[k - 1]? = some y := ⟨xs[k - 1], List.getElem?_eq_getElem (by omega)⟩
              obtain ⟨g', o', B', cc', hA', hg1, d0, d1, -, -, -⟩ := (hA.below hb).at hyk
              injection hA' with hA'
              injection hA' with hA1 hA2
              subst hA1; subst hA2
              have hp : 0 < k := by omega
              have HO := Lib.hid (okA_next (bef := idLt) HX.out HV.out (by omega) hyk)
              clear hyk h0 hA
              by_cases hq : y.id < x.id
              · have hd1 : decide (x.id ≤ y.id) = false := by simp; omega
                have HO1 := Lib.hid (HO.out.trans (show _ = true by simpa [idLt] using hq))
                clear hkl
                go_wp2_with fail
                refine wp_region_lat wr.heap.size (by kernel_rfl) (by kernel_rfl) ?_
                have LC := fun (u : Lat wr.heap.size wr) => u.cell
                repeat (go_big_quiet_step ((first | (go_at_call 60; exact lat_same _ (C1.out _)) | (go_at_call 61; exact lat_same _ (C2.out _ (HRD.out.below (Lat.below _)))))))
                refine wpQuiet_nil ?_
                intro w1 hw1
                clear LC
                go_wp2
                go_roundw
                case rel => exact ⟨k + 1, by omega, by go_num, rfl, HR.out.step HO1.out, hb.trans (hw1.mono hb.size)⟩
                case measure => simp [intOf]; omega
              · have hd1 : decide (x.id ≤ y.id) = true := by simp; omega
                have HO1 := Lib.hid (bookB_no hkl (HO.out.trans (show _ = false by simpa [idLt] using hq)))
                clear hkl
                go_wp2_with fail
                refine wp_region_lat wr.heap.size (by kernel_rfl) (by kernel_rfl) ?_
                have LC := fun (u : Lat wr.heap.size wr) => u.cell
                repeat (go_big_quiet_step ((first | (go_at_call 60; exact lat_same _ (C1.out _)) | (go_at_call 61; exact lat_same _ (C2.out _ (HRD.out.below (Lat.below _)))))))
                refine wpQuiet_nil ?_
                intro w1 hw1
                clear LC
                go_wp2
                go_ret
                exact ⟨ret_bool HO1.out.symm, hb.trans (hw1.mono hb.size)⟩
      · go_wp2
        go_ret
        exact ⟨ret_bool (by rw [bookB_long (by have := HN.out; omega)]; simp; omega), hb⟩
    · go_wp2
      go_ret
      exact ⟨ret_bool (by rw [← bookB_end HR.out (by have := HN.out; omega), HN.out]; exact decide_eq_decide.2 (by omega)), hb⟩

set_option maxRecDepth 20000 in
set_option maxHeartbeats 2000000 in
theorem isStockBook_any (A : Option Addr) (n c : Nat) (xs : List BR) (w : World) (hn : xs.length = n) (hA : RdB w A xs) (h20 : n ≤ 1048577) (hw : ∀ x ∈ xs, x.ws.length ≤ 1048577) :
    Calls Tryz.prog 30 #[.slice A n c] w (Ret (.bool (bookB xs)) w) := by
  have HN := Lib.hid hn
  clear hn
  go_enter Tryz.func30, Tryz.ntmps30
  go_wp2_with fail
  go_loopw [7, 2, 3, 4] (fun i r _ _ wr => ∃ (k : Nat), k ≤ n ∧ i = .int .i64 k ∧ r = .bool false ∧ ARel stripB idLt xs k ∧ Below w.heap.size w wr) (fun i _ _ _ _ => n - (intOf i).toNat)
  case atStart => exact ⟨0, by omega, rfl, rfl, .zero, Below.refl _ _⟩
  case round =>
    obtain ⟨k, hk, rfl, rfl, hrel, hb⟩ := hrel
    have HR := Lib.hid hrel
    clear hrel
    by_cases hlt : k < n
    · obtain ⟨x, hxk⟩ : ∃ x, xs[k]? = some x := ⟨xs[k]'(by have := HN.out; omega), List.getElem?_eq_getElem _⟩
      obtain ⟨g, o, B, cc, hAe, hg, c0, c1, hc1, hc2, hrd⟩ := (hA.below hb).at hxk
      subst hAe
      have HX := Lib.hid hxk
      have HRD := Lib.hid (hrd.alloc (.cells #[.int .i64 x.id, .slice B x.ws.length cc] 34))
      have hwl := hw x (List.mem_of_getElem? hxk)
      have C1 := Lib.hid (fun w => inRange_any x.id 1 99 w)
      have C2 := Lib.hid (fun w h => areWidths_any B x.ws.length cc x.ws w rfl h hwl)
      have hkl : k < xs.length := by have := HN.out; omega
      have hb1 : Below w.heap.size w (wr.alloc (.cells #[.int .i64 x.id, .slice B x.ws.length cc] 34)) := hb.alloc hb.size _
      have hsz : (wr.alloc (.cells #[.int .i64 x.id, .slice B x.ws.length cc] 34)).heap.size = wr.heap.size + 1 := by simp
      have HSZ := Lib.hid hsz
      clear hxk hrd hw hc1 hc2 hsz
      cases hv : inR x.id 1 99 with
      | false =>
        rw [hv] at C1
        have HV := Lib.hid (bookB_no hkl (okA_no (bef := idLt) HX.out (strip_no1 hv)))
        clear hv hkl hA
        go_wp2_with fail
        refine wp_region_lat (wr.heap.size + 1) (by kernel_rfl) (by kernel_rfl) ?_
        have LC := fun (u : Lat (wr.heap.size + 1) (wr.alloc (.cells #[.int .i64 x.id, .slice B x.ws.length cc] 34))) => u.cell
        repeat (go_big_quiet_step ((go_at_call 56; exact lat_same _ (C1.out _))))
        refine wpQuiet_nil ?_
        intro w1 hw1
        clear LC
        go_wp2
        go_ret
        exact ⟨ret_bool HV.out.symm, hb1.trans (hw1.mono (by have := hb.size; omega))⟩
      | true =>
        rw [hv] at C1
        cases hv2 : rowB x.ws with
        | false =>
          rw [hv2] at C2
          have HV := Lib.hid (bookB_no hkl (okA_no (bef := idLt) HX.out (strip_no2 hv2)))
          clear hv hv2 hkl hA
          go_wp2_with fail
          refine wp_region_lat (wr.heap.size + 1) (by kernel_rfl) (by kernel_rfl) ?_
          have LC := fun (u : Lat (wr.heap.size + 1) (wr.alloc (.cells #[.int .i64 x.id, .slice B x.ws.length cc] 34))) => u.cell
          repeat (go_big_quiet_step ((first | (go_at_call 56; exact lat_same _ (C1.out _)) | (go_at_call 57; exact lat_same _ (C2.out _ (HRD.out.below (Below.mono (Lat.below _) (by rw [HSZ.out]; exact Nat.le_refl _))))))))
          refine wpQuiet_nil ?_
          intro w1 hw1
          clear LC
          go_wp2
          go_ret
          exact ⟨ret_bool HV.out.symm, hb1.trans (hw1.mono (by have := hb.size; omega))⟩
        | true =>
          rw [hv2] at C2
          have HV := Lib.hid (strip_yes hv hv2)
          clear hv hv2
          by_cases h0 : k ≤ 0
          · have hd : decide (0 < k) = false := by simp; omega
            have HO := Lib.hid (okA_first (bef := idLt) HX.out HV.out (by omega))
            clear hkl hA
            go_wp2_with fail
            refine wp_region_lat (wr.heap.size + 1) (by kernel_rfl) (by kernel_rfl) ?_
            have LC := fun (u : Lat (wr.heap.size + 1) (wr.alloc (.cells #[.int .i64 x.id, .slice B x.ws.length cc] 34))) => u.cell
            repeat (go_big_quiet_step ((first | (go_at_call 56; exact lat_same _ (C1.out _)) | (go_at_call 57; exact lat_same _ (C2.out _ (HRD.out.below (Below.mono (Lat.below _) (by rw [HSZ.out]; exact Nat.le_refl _))))))))
            refine wpQuiet_nil ?_
            intro w1 hw1
            clear LC
            go_wp2
            go_roundw
            case rel => exact ⟨k + 1, by omega, by go_num, rfl, HR.out.step HO.out, hb1.trans (hw1.mono (by have := hb.size; omega))⟩
            case measure => simp [intOf]; omega
          · obtain ⟨y, hyk⟩ : ∃ y, xs[k - 1]? = some y := ⟨xs[k - 1], List.getElem?_eq_getElem (by omega)⟩
            obtain ⟨g', o', B', cc', hA', hg1, d0, d1, -, -, -⟩ := (hA.below hb).at hyk
            injection hA' with hA'
            injection hA' with hA1 hA2
            subst hA1; subst hA2
            have hp : 0 < k := by omega
            have HO := Lib.hid (okA_next (bef := idLt) HX.out HV.out (by omega) hyk)
            clear hyk h0 hA
            by_cases hq : y.id < x.id
            · have hd1 : decide (x.id ≤ y.id) = false := by simp; omega
              have HO1 := Lib.hid (HO.out.trans (show _ = true by simpa [idLt] using hq))
              clear hkl
              go_wp2_with fail
              refine wp_region_lat (wr.heap.size + 1) (by kernel_rfl) (by kernel_rfl) ?_
              have LC := fun (u : Lat (wr.heap.size + 1) (wr.alloc (.cells #[.int .i64 x.id, .slice B x.ws.length cc] 34))) => u.cell
              repeat (go_big_quiet_step ((first | (go_at_call 56; exact lat_same _ (C1.out _)) | (go_at_call 57; exact lat_same _ (C2.out _ (HRD.out.below (Below.mono (Lat.below _) (by rw [HSZ.out]; exact Nat.le_refl _))))))))
              refine wpQuiet_nil ?_
              intro w1 hw1
              clear LC
              go_wp2
              go_roundw
              case rel => exact ⟨k + 1, by omega, by go_num, rfl, HR.out.step HO1.out, hb1.trans (hw1.mono (by have := hb.size; omega))⟩
              case measure => simp [intOf]; omega
            · have hd1 : decide (x.id ≤ y.id) = true := by simp; omega
              have HO1 := Lib.hid (bookB_no hkl (HO.out.trans (show _ = false by simpa [idLt] using hq)))
              clear hkl
              go_wp2_with fail
              refine wp_region_lat (wr.heap.size + 1) (by kernel_rfl) (by kernel_rfl) ?_
              have LC := fun (u : Lat (wr.heap.size + 1) (wr.alloc (.cells #[.int .i64 x.id, .slice B x.ws.length cc] 34))) => u.cell
              repeat (go_big_quiet_step ((first | (go_at_call 56; exact lat_same _ (C1.out _)) | (go_at_call 57; exact lat_same _ (C2.out _ (HRD.out.below (Below.mono (Lat.below _) (by rw [HSZ.out]; exact Nat.le_refl _))))))))
              refine wpQuiet_nil ?_
              intro w1 hw1
              clear LC
              go_wp2
              go_ret
              exact ⟨ret_bool HO1.out.symm, hb1.trans (hw1.mono (by have := hb.size; omega))⟩
    · go_wp2
      go_ret
      exact ⟨ret_bool (by rw [← bookB_end HR.out (by have := HN.out; omega), HN.out]; exact decide_eq_decide.2 (by omega)), hb⟩

theorem implIsStockBook_any (A : Option Addr) (n c : Nat) (xs : List BR) (w : World) (hn : xs.length = n) (hA : RdB w A xs) (h20 : n ≤ 1048576) (hw : ∀ x ∈ xs, x.ws.length ≤ 1048576) :
    Calls Tryz.prog 12 #[.slice A n c] w (Ret (.bool (bookB xs)) w) := by
  go_enter Tryz.func12, Tryz.ntmps12
  go_wp2_with fail
  refine (isStockBook_any A n c xs _ hn hA (by omega) (fun x h => by have := hw x h; omega)).mono ?_
  rintro e w1 ⟨rfl, b1⟩
  go_wp2
  go_ret
  exact ⟨rfl, b1⟩
end Go.Proofs.YtacacibpehnmgaaGreatDoor
