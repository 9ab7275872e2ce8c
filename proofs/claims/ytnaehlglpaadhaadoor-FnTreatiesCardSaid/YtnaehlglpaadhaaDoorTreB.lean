/- The reference's test of a list of treaties. -/
import Derived.Test.YtnaehlglpaadhaaDoorTreA
namespace Go.Proofs.YtnaehlglpaadhaaDoor
set_option linter.unusedVariables false
set_option linter.unusedSimpArgs false
open Go.RowKit

theorem okG_valid {one : R5 → Bool} {bef : R5 → R5 → Bool} {xs : List R5} {k : Nat} {y : R5} (h : okG one bef xs k = true) (hy : xs[k]? = some y) : one y = true := by
  simp only [okG, hy, Bool.and_eq_true] at h; exact h.1

set_option maxRecDepth 20000 in
set_option maxHeartbeats 2000000 in
theorem l25Good_any (A : Option Addr) (n c : Nat) (xs : List R5) (w : World) (hn : xs.length = n) (hA : Rd w A (cells5 xs)) (h20 : n ≤ 1048576) :
    Calls Tryd.prog 34 #[.slice A n c] w (Ret (.bool (trL xs)) w) := by
  go_enter Tryd.func34, Tryd.ntmps34
  go_wp2_with fail
  go_loopw [3, 2] (fun i r wr => ∃ (k : Nat), k ≤ n ∧ i = .int .i64 k ∧ r = .bool false ∧ GRel trB trBef xs k ∧ Below w.heap.size w wr) (fun i _ _ => n - (intOf i).toNat)
  case atStart => exact ⟨0, by omega, rfl, rfl, .zero, Below.refl _ _⟩
  case round =>
    obtain ⟨k, hk, rfl, rfl, hrel, hb⟩ := hrel
    have HR := Lib.hid hrel
    clear hrel
    by_cases hlt : k < n
    · by_cases hk20 : k ≤ 20
      · obtain ⟨x, hxk⟩ : ∃ x, xs[k]? = some x := ⟨xs[k], List.getElem?_eq_getElem (by omega)⟩
        obtain ⟨g, o, hAe, hg, c0, c1, c2, c3, c4⟩ := (hA.below hb).at5 hxk
        subst hAe
        have HX := Lib.hid hxk
        clear hxk
        have C1 := Lib.hid (fun w => l25One_any x w)
        cases hv : trB x with
        | false =>
          rw [hv] at C1
          have HV := Lib.hid (okG_no (bef := trBef) HX.out hv)
          clear hv
          go_wp2_with fail
          refine wp_region_lat wr.heap.size (by kernel_rfl) (by kernel_rfl) ?_
          have LC := fun (u : Lat wr.heap.size wr) => u.cell
          repeat (go_big_quiet_step ((go_at_call 54; exact lat_call _ (Nat.le_refl _) (C1.out _))))
          refine wpQuiet_nil ?_
          intro w1 hw1
          clear LC
          go_wp2
          go_ret
          exact ⟨ret_bool (trL_no (k := k) (by omega) HV.out).symm, hb.trans (hw1.mono hb.size)⟩
        | true =>
          rw [hv] at C1
          have HV := Lib.hid hv
          clear hv
          by_cases h0 : k ≤ 0
          · have hd : decide (0 < k) = false := by simp; omega
            have HN := Lib.hid (okG_first (bef := trBef) HX.out HV.out (by omega))
            go_wp2_with fail
            refine wp_region_lat wr.heap.size (by kernel_rfl) (by kernel_rfl) ?_
            have LC := fun (u : Lat wr.heap.size wr) => u.cell
            repeat (go_big_quiet_step ((go_at_call 54; exact lat_call _ (Nat.le_refl _) (C1.out _))))
            refine wpQuiet_nil ?_
            intro w1 hw1
            clear LC
            have B1 := hb.trans (hw1.mono hb.size)
            obtain ⟨bc, bf⟩ := bcell hw1
            have s1 := hw1.size
            have hgw : g < w1.heap.size := by omega
            have X0 := (bc _ _ hg).trans c0
            have X1 := (bc _ _ hg).trans c1
            have X2 := (bc _ _ hg).trans c2
            have X3 := (bc _ _ hg).trans c3
            have X4 := (bc _ _ hg).trans c4
            clear bc bf c0 c1 c2 c3 c4
            go_wp2_with fail
            refine wp_region_lat w1.heap.size (by kernel_rfl) (by kernel_rfl) ?_
            have LC := fun (u : Lat w1.heap.size w1) => u.cell
            repeat (go_big_quiet_step (fail))
            refine wpQuiet_nil ?_
            intro w2 hw2
            clear LC
            go_wp2
            go_roundw
            case rel => exact ⟨k + 1, by omega, by go_num, rfl, HR.out.step HN.out, B1.trans (hw2.mono B1.size)⟩
            case measure => simp [intOf]; omega
          · obtain ⟨y, hyk⟩ : ∃ y, xs[k - 1]? = some y := ⟨xs[k - 1], List.getElem?_eq_getElem (by omega)⟩
            obtain ⟨g', o', hA', hg1, d0, d1, d2, d3, d4⟩ := (hA.below hb).at5 hyk
            injection hA' with hA'
            injection hA' with hA1 hA2
            subst hA1; subst hA2
            have hp : 0 < k := by omega
            have hvy : trB y = true := okG_valid (HR.out (k - 1) (by omega)) hyk
            have HVY := Lib.hid hvy
            have HN := Lib.hid ((okT_next HX.out HV.out hp hyk).trans (show _ = (decide (trKey y < trKey x) && !(decide (y.a = x.a) && (decide (y.b = x.b) && decide (x.c ≤ y.d)))) by rw [trKey_less hvy HV.out]))
            clear hyk h0 hvy
            by_cases hq0 : trKey x ≤ trKey y
            · have hd1 : decide (trKey x ≤ trKey y) = true := by simp [hq0]
              have HN1 := Lib.hid (HN.out.trans (show _ = false by rw [show decide (trKey y < trKey x) = false by simp; omega]; rfl))
              go_wp2_with fail
              refine wp_region_lat wr.heap.size (by kernel_rfl) (by kernel_rfl) ?_
              have LC := fun (u : Lat wr.heap.size wr) => u.cell
              repeat (go_big_quiet_step ((first | (go_at_call 54; exact lat_call _ (Nat.le_refl _) (C1.out _)) | (go_at_call 55; exact lat_call _ (Nat.le_refl _) (l25Key_any _ _ (by first | exact HVY.out | exact HV.out))))))
              refine wpQuiet_nil ?_
              intro w1 hw1
              clear LC
              go_wp2
              go_ret
              exact ⟨ret_bool (trL_no (k := k) (by omega) HN1.out).symm, hb.trans (hw1.mono hb.size)⟩
            · have hd1 : decide (trKey x ≤ trKey y) = false := by simp; omega
              have hd0 : decide (trKey y < trKey x) = true := by simp; omega
              go_wp2_with fail
              refine wp_region_lat wr.heap.size (by kernel_rfl) (by kernel_rfl) ?_
              have LC := fun (u : Lat wr.heap.size wr) => u.cell
              repeat (go_big_quiet_step ((first | (go_at_call 54; exact lat_call _ (Nat.le_refl _) (C1.out _)) | (go_at_call 55; exact lat_call _ (Nat.le_refl _) (l25Key_any _ _ (by first | exact HVY.out | exact HV.out))))))
              refine wpQuiet_nil ?_
              intro w1 hw1
              clear LC
              have B1 := hb.trans (hw1.mono hb.size)
              obtain ⟨bc, bf⟩ := bcell hw1
              have s1 := hw1.size
              have hgw : g < w1.heap.size := by omega
              have X0 := (bc _ _ hg).trans c0
              have X1 := (bc _ _ hg).trans c1
              have X2 := (bc _ _ hg).trans c2
              have X3 := (bc _ _ hg).trans c3
              have X4 := (bc _ _ hg).trans c4
              have Y0 := (bc _ _ hg).trans d0
              have Y1 := (bc _ _ hg).trans d1
              have Y2 := (bc _ _ hg).trans d2
              have Y3 := (bc _ _ hg).trans d3
              have Y4 := (bc _ _ hg).trans d4
              clear bc bf c0 c1 c2 c3 c4 d0 d1 d2 d3 d4
              by_cases ha : y.a = x.a
              · have ha' : (y.a == x.a) = true := by simp [ha]
                have HA := Lib.hid ha
                clear ha
                by_cases hbb : y.b = x.b
                · have hb' : (y.b == x.b) = true := by simp [hbb]
                  have HBB := Lib.hid hbb
                  clear hbb
                  by_cases hd : x.c ≤ y.d
                  · have hd2 : decide (x.c ≤ y.d) = true := by simp [hd]
                    have HN1 := Lib.hid (HN.out.trans (show _ = false by simp [HA.out, HBB.out, hd]))
                    go_wp2_with fail
                    refine wp_region_lat w1.heap.size (by kernel_rfl) (by kernel_rfl) ?_
                    have LC := fun (u : Lat w1.heap.size w1) => u.cell
                    repeat (go_big_quiet_step (fail))
                    refine wpQuiet_nil ?_
                    intro w2 hw2
                    clear LC
                    go_wp2
                    go_ret
                    exact ⟨ret_bool (trL_no (k := k) (by omega) HN1.out).symm, B1.trans (hw2.mono B1.size)⟩
                  · have hd2 : decide (x.c ≤ y.d) = false := by simp; omega
                    have HN1 := Lib.hid (HN.out.trans (show _ = true by rw [hd0, hd2]; simp))
                    go_wp2_with fail
                    refine wp_region_lat w1.heap.size (by kernel_rfl) (by kernel_rfl) ?_
                    have LC := fun (u : Lat w1.heap.size w1) => u.cell
                    repeat (go_big_quiet_step (fail))
                    refine wpQuiet_nil ?_
                    intro w2 hw2
                    clear LC
                    go_wp2
                    go_roundw
                    case rel => exact ⟨k + 1, by omega, by go_num, rfl, HR.out.step HN1.out, B1.trans (hw2.mono B1.size)⟩
                    case measure => simp [intOf]; omega
                · have hb' : (y.b == x.b) = false := by simp [hbb]
                  have HN1 := Lib.hid (HN.out.trans (show _ = true by rw [hd0]; simp [hbb]))
                  go_wp2_with fail
                  refine wp_region_lat w1.heap.size (by kernel_rfl) (by kernel_rfl) ?_
                  have LC := fun (u : Lat w1.heap.size w1) => u.cell
                  repeat (go_big_quiet_step (fail))
                  refine wpQuiet_nil ?_
                  intro w2 hw2
                  clear LC
                  go_wp2
                  go_roundw
                  case rel => exact ⟨k + 1, by omega, by go_num, rfl, HR.out.step HN1.out, B1.trans (hw2.mono B1.size)⟩
                  case measure => simp [intOf]; omega
              · have ha' : (y.a == x.a) = false := by simp [ha]
                have HN1 := Lib.hid (HN.out.trans (show _ = true by rw [hd0]; simp [ha]))
                go_wp2_with fail
                refine wp_region_lat w1.heap.size (by kernel_rfl) (by kernel_rfl) ?_
                have LC := fun (u : Lat w1.heap.size w1) => u.cell
                repeat (go_big_quiet_step (fail))
                refine wpQuiet_nil ?_
                intro w2 hw2
                clear LC
                go_wp2
                go_roundw
                case rel => exact ⟨k + 1, by omega, by go_num, rfl, HR.out.step HN1.out, B1.trans (hw2.mono B1.size)⟩
                case measure => simp [intOf]; omega
      · go_wp2
        go_ret
        exact ⟨ret_bool (by rw [trL_long hn (by omega)]; simp; omega), hb⟩
    · go_wp2
      go_ret
      exact ⟨ret_bool (trL_end HR.out hn (by omega)), hb⟩
end Go.Proofs.YtnaehlglpaadhaaDoor
