/- Which rates, mails and covers are valid, and which lists of them: the program's and the reference's tests compute one function. -/
import Derived.Test.YtobloedpmjkgpaaCvR
import Derived.Test.YtobloedpmjkgpaaExt
import Derived.Test.YtobloedpmjkgpaaCmp
import Derived.Deep.Light
import Derived.StillTailTactics
namespace Go.Proofs.Ytobloedpmjkgpaa
set_option linter.unusedVariables false
set_option linter.unusedSimpArgs false
open Go.RowKit

theorem isDay_any (a : Int) (w : World) : Calls Try.prog 61 #[.int .i64 a] w (RetS (.bool (inR a 0 4000)) w) := by
  go_enter Try.func61, Try.ntmps61
  go_wp2_with (go_at_call 55; refine (inRange_any _ _ _ _).mono ?_; rintro e w' ⟨rfl, rfl⟩)
  go_ret
  exact ⟨rfl, rfl⟩

theorem isZone_any (a : Int) (w : World) : Calls Try.prog 62 #[.int .i64 a] w (RetS (.bool (inR a 0 9)) w) := by
  go_enter Try.func62, Try.ntmps62
  go_wp2_with (go_at_call 55; refine (inRange_any _ _ _ _).mono ?_; rintro e w' ⟨rfl, rfl⟩)
  go_ret
  exact ⟨rfl, rfl⟩

theorem isWeight_any (a : Int) (w : World) : Calls Try.prog 63 #[.int .i64 a] w (RetS (.bool (inR a 1 2000)) w) := by
  go_enter Try.func63, Try.ntmps63
  go_wp2_with (go_at_call 55; refine (inRange_any _ _ _ _).mono ?_; rintro e w' ⟨rfl, rfl⟩)
  go_ret
  exact ⟨rfl, rfl⟩

theorem isCents_any (a : Int) (w : World) : Calls Try.prog 64 #[.int .i64 a] w (RetS (.bool (inR a 1 9999)) w) := by
  go_enter Try.func64, Try.ntmps64
  go_wp2_with (go_at_call 55; refine (inRange_any _ _ _ _).mono ?_; rintro e w' ⟨rfl, rfl⟩)
  go_ret
  exact ⟨rfl, rfl⟩

theorem isOffice_any (a : Int) (w : World) : Calls Try.prog 30 #[.int .i64 a] w (RetS (.bool (inR a 0 9)) w) := by
  go_enter Try.func30, Try.ntmps30
  go_wp2_with (go_at_call 55; refine (inRange_any _ _ _ _).mono ?_; rintro e w' ⟨rfl, rfl⟩)
  go_ret
  exact ⟨rfl, rfl⟩

theorem isMinute_any (a : Int) (w : World) : Calls Try.prog 65 #[.int .i64 a] w (RetS (.bool (inR a 0 9999)) w) := by
  go_enter Try.func65, Try.ntmps65
  go_wp2_with (go_at_call 55; refine (inRange_any _ _ _ _).mono ?_; rintro e w' ⟨rfl, rfl⟩)
  go_ret
  exact ⟨rfl, rfl⟩

theorem l2Day_any (a : Int) (w : World) : Calls Try.prog 72 #[.int .i64 a] w (RetS (.bool (inR a 0 4000)) w) := by
  go_enter Try.func72, Try.ntmps72
  go_wp2_with (go_at_call 58; refine (l1In_any _ _ _ _).mono ?_; rintro e w' ⟨rfl, rfl⟩)
  go_ret
  exact ⟨rfl, rfl⟩

theorem l8Zone_any (a : Int) (w : World) : Calls Try.prog 70 #[.int .i64 a] w (RetS (.bool (inR a 0 9)) w) := by
  go_enter Try.func70, Try.ntmps70
  go_wp2_with (go_at_call 58; refine (l1In_any _ _ _ _).mono ?_; rintro e w' ⟨rfl, rfl⟩)
  go_ret
  exact ⟨rfl, rfl⟩

theorem l8Grams_any (a : Int) (w : World) : Calls Try.prog 71 #[.int .i64 a] w (RetS (.bool (inR a 1 2000)) w) := by
  go_enter Try.func71, Try.ntmps71
  go_wp2_with (go_at_call 58; refine (l1In_any _ _ _ _).mono ?_; rintro e w' ⟨rfl, rfl⟩)
  go_ret
  exact ⟨rfl, rfl⟩

theorem l8Cents_any (a : Int) (w : World) : Calls Try.prog 73 #[.int .i64 a] w (RetS (.bool (inR a 1 9999)) w) := by
  go_enter Try.func73, Try.ntmps73
  go_wp2_with (go_at_call 58; refine (l1In_any _ _ _ _).mono ?_; rintro e w' ⟨rfl, rfl⟩)
  go_ret
  exact ⟨rfl, rfl⟩

theorem l9Office_any (a : Int) (w : World) : Calls Try.prog 34 #[.int .i64 a] w (RetS (.bool (inR a 0 9)) w) := by
  go_enter Try.func34, Try.ntmps34
  go_wp2_with (go_at_call 58; refine (l1In_any _ _ _ _).mono ?_; rintro e w' ⟨rfl, rfl⟩)
  go_ret
  exact ⟨rfl, rfl⟩

theorem l9Minute_any (a : Int) (w : World) : Calls Try.prog 67 #[.int .i64 a] w (RetS (.bool (inR a 0 9999)) w) := by
  go_enter Try.func67, Try.ntmps67
  go_wp2_with (go_at_call 58; refine (l1In_any _ _ _ _).mono ?_; rintro e w' ⟨rfl, rfl⟩)
  go_ret
  exact ⟨rfl, rfl⟩

set_option maxHeartbeats 4000000 in
set_option maxRecDepth 20000 in
theorem isRate_any (x : R5) (w : World) :
    Calls Try.prog 44 #[.agg #[.int .i64 x.a, .int .i64 x.b, .int .i64 x.c, .int .i64 x.d, .int .i64 x.e]] w (Ret (.bool (rtB x)) w) := by
  go_enter Try.func44, Try.ntmps44
  go_wp2_with (first
    | (go_at_call 62; refine (isZone_any _ _).mono ?_; rintro e w' ⟨rfl, rfl⟩)
    | (go_at_call 63; refine (isWeight_any _ _).mono ?_; rintro e w' ⟨rfl, rfl⟩)
    | (go_at_call 61; refine (isDay_any _ _).mono ?_; rintro e w' ⟨rfl, rfl⟩)
    | (go_at_call 64; refine (isCents_any _ _).mono ?_; rintro e w' ⟨rfl, rfl⟩))
  all_goals
    go_ret
    refine ⟨ret_bool ?_, (Below.refl _ _).alloc (Nat.le_refl _) _⟩
    go_light
    grind [rtB, inR]

set_option maxHeartbeats 4000000 in
set_option maxRecDepth 20000 in
theorem l8One_any (x : R5) (w : World) :
    Calls Try.prog 50 #[.agg #[.int .i64 x.a, .int .i64 x.b, .int .i64 x.c, .int .i64 x.d, .int .i64 x.e]] w (Ret (.bool (rtB x)) w) := by
  go_enter Try.func50, Try.ntmps50
  go_wp2_with (first
    | (go_at_call 70; refine (l8Zone_any _ _).mono ?_; rintro e w' ⟨rfl, rfl⟩)
    | (go_at_call 71; refine (l8Grams_any _ _).mono ?_; rintro e w' ⟨rfl, rfl⟩)
    | (go_at_call 72; refine (l2Day_any _ _).mono ?_; rintro e w' ⟨rfl, rfl⟩)
    | (go_at_call 58; refine (l1In_any _ _ _ _).mono ?_; rintro e w' ⟨rfl, rfl⟩)
    | (go_at_call 73; refine (l8Cents_any _ _).mono ?_; rintro e w' ⟨rfl, rfl⟩))
  all_goals
    go_ret
    refine ⟨ret_bool ?_, (Below.refl _ _).alloc (Nat.le_refl _) _⟩
    go_light
    grind [rtB, inR]

set_option maxHeartbeats 4000000 in
set_option maxRecDepth 20000 in
theorem isMail_any (x : R4) (w : World) (hd : -1000000 ≤ x.d ∧ x.d ≤ 1000000) :
    Calls Try.prog 47 #[.agg #[.int .i64 x.a, .int .i64 x.b, .int .i64 x.c, .int .i64 x.d]] w (Ret (.bool (mlB x)) w) := by
  obtain ⟨hd1, hd2⟩ := hd
  go_enter Try.func47, Try.ntmps47
  go_wp2_with (first
    | (go_at_call 30; refine (isOffice_any _ _).mono ?_; rintro e w' ⟨rfl, rfl⟩)
    | (go_at_call 55; refine (inRange_any _ _ _ _).mono ?_; rintro e w' ⟨rfl, rfl⟩)
    | (go_at_call 65; refine (isMinute_any _ _).mono ?_; rintro e w' ⟨rfl, rfl⟩))
  all_goals
    go_ret
    refine ⟨ret_bool ?_, (Below.refl _ _).alloc (Nat.le_refl _) _⟩
    go_light
    grind [mlB, inR]

set_option maxHeartbeats 4000000 in
set_option maxRecDepth 20000 in
theorem l9One_any (x : R4) (w : World) (hd : -1000000 ≤ x.d ∧ x.d ≤ 1000000) :
    Calls Try.prog 41 #[.agg #[.int .i64 x.a, .int .i64 x.b, .int .i64 x.c, .int .i64 x.d]] w (Ret (.bool (mlB x)) w) := by
  obtain ⟨hd1, hd2⟩ := hd
  go_enter Try.func41, Try.ntmps41
  go_wp2_with (first
    | (go_at_call 34; refine (l9Office_any _ _).mono ?_; rintro e w' ⟨rfl, rfl⟩)
    | (go_at_call 67; refine (l9Minute_any _ _).mono ?_; rintro e w' ⟨rfl, rfl⟩)
    | (go_at_call 58; refine (l1In_any _ _ _ _).mono ?_; rintro e w' ⟨rfl, rfl⟩))
  all_goals
    go_ret
    refine ⟨ret_bool ?_, (Below.refl _ _).alloc (Nat.le_refl _) _⟩
    go_light
    grind [mlB, inR]

set_option maxHeartbeats 4000000 in
set_option maxRecDepth 20000 in
theorem isCover_any (x : R9) (w : World) :
    Calls Try.prog 36 #[.agg #[.int .i64 x.a, .int .i64 x.b, .int .i64 x.c, .int .i64 x.d, .int .i64 x.e, .int .i64 x.f, .int .i64 x.g, .int .i64 x.h, .int .i64 x.i]] w (Ret (.bool (cvB x)) w) := by
  go_enter Try.func36, Try.ntmps36
  go_wp2_with (first
    | (go_at_call 55; refine (inRange_any _ _ _ _).mono ?_; rintro e w' ⟨rfl, rfl⟩)
    | (go_at_call 61; refine (isDay_any _ _).mono ?_; rintro e w' ⟨rfl, rfl⟩)
    | (go_at_call 62; refine (isZone_any _ _).mono ?_; rintro e w' ⟨rfl, rfl⟩)
    | (go_at_call 63; refine (isWeight_any _ _).mono ?_; rintro e w' ⟨rfl, rfl⟩)
    | (go_at_call 64; refine (isCents_any _ _).mono ?_; rintro e w' ⟨rfl, rfl⟩)
    | (go_at_call 30; refine (isOffice_any _ _).mono ?_; rintro e w' ⟨rfl, rfl⟩)
    | (go_at_call 65; refine (isMinute_any _ _).mono ?_; rintro e w' ⟨rfl, rfl⟩))
  all_goals
    go_ret
    refine ⟨ret_bool ?_, (Below.refl _ _).alloc (Nat.le_refl _) _⟩
    go_light
    grind [cvB, inR]

set_option maxHeartbeats 4000000 in
set_option maxRecDepth 20000 in
theorem l10One_any (x : R9) (w : World) :
    Calls Try.prog 52 #[.agg #[.int .i64 x.a, .int .i64 x.b, .int .i64 x.c, .int .i64 x.d, .int .i64 x.e, .int .i64 x.f, .int .i64 x.g, .int .i64 x.h, .int .i64 x.i]] w (Ret (.bool (cvB x)) w) := by
  go_enter Try.func52, Try.ntmps52
  go_wp2_with (first
    | (go_at_call 58; refine (l1In_any _ _ _ _).mono ?_; rintro e w' ⟨rfl, rfl⟩)
    | (go_at_call 72; refine (l2Day_any _ _).mono ?_; rintro e w' ⟨rfl, rfl⟩)
    | (go_at_call 70; refine (l8Zone_any _ _).mono ?_; rintro e w' ⟨rfl, rfl⟩)
    | (go_at_call 71; refine (l8Grams_any _ _).mono ?_; rintro e w' ⟨rfl, rfl⟩)
    | (go_at_call 73; refine (l8Cents_any _ _).mono ?_; rintro e w' ⟨rfl, rfl⟩)
    | (go_at_call 34; refine (l9Office_any _ _).mono ?_; rintro e w' ⟨rfl, rfl⟩)
    | (go_at_call 67; refine (l9Minute_any _ _).mono ?_; rintro e w' ⟨rfl, rfl⟩))
  all_goals
    go_ret
    refine ⟨ret_bool ?_, (Below.refl _ _).alloc (Nat.le_refl _) _⟩
    go_light
    grind [cvB, inR]

theorem l8Code_any (x : R5) (w : World) (hx : rtB x = true) :
    Calls Try.prog 51 #[.agg #[.int .i64 x.a, .int .i64 x.b, .int .i64 x.c, .int .i64 x.d, .int .i64 x.e]] w (Ret (.int .i64 (rtKey x)) w) := by
  obtain ⟨⟨a1, a2⟩, ⟨a3, a4⟩, ⟨a6, a7⟩, -⟩ := rtB_bd hx
  go_enter Try.func51, Try.ntmps51
  go_wp2
  go_ret
  exact ⟨ret_int rfl, (Below.refl _ _).alloc (Nat.le_refl _) _⟩

/-- The numbers of a mail are small. -/
def sm4 (x : R4) : Prop := (-1000000 ≤ x.a ∧ x.a ≤ 1000000) ∧ (-1000000 ≤ x.b ∧ x.b ≤ 1000000) ∧ (-1000000 ≤ x.c ∧ x.c ≤ 1000000) ∧ (-1000000 ≤ x.d ∧ x.d ≤ 1000000)
theorem sm4_of {x : R4} (h : mlB x = true) : sm4 x := by have := mlB_bd h; unfold sm4; omega
theorem l9Code_any (x : R4) (w : World) (hx : sm4 x) :
    Calls Try.prog 42 #[.agg #[.int .i64 x.a, .int .i64 x.b, .int .i64 x.c, .int .i64 x.d]] w (Ret (.int .i64 (mlKey x)) w) := by
  obtain ⟨⟨a1, a2⟩, ⟨a3, a4⟩, ⟨a5, a6⟩, ⟨a7, a8⟩⟩ := hx
  go_enter Try.func42, Try.ntmps42
  go_wp2
  go_ret
  exact ⟨ret_int rfl, (Below.refl _ _).alloc (Nat.le_refl _) _⟩

set_option maxRecDepth 20000 in
set_option maxHeartbeats 2000000 in
theorem l8Good_any (A : Option Addr) (n c : Nat) (xs : List R5) (w : World) (hn : xs.length = n) (hA : Rd w A (cells5 xs)) (h20 : n ≤ 1048576) :
    Calls Try.prog 25 #[.slice A n c] w (Ret (.bool (rtL xs)) w) := by
  go_enter Try.func25, Try.ntmps25
  go_wp2_with fail
  go_loopw [3, 2] (fun i r wr => ∃ (k : Nat), k ≤ n ∧ i = .int .i64 k ∧ r = .bool false ∧ ARel rtB rtBef xs k ∧ Below w.heap.size w wr) (fun i _ _ => n - (intOf i).toNat)
  case atStart => exact ⟨0, by omega, rfl, rfl, .zero, Below.refl _ _⟩
  case round =>
    obtain ⟨k, hk, rfl, rfl, hrel, hb⟩ := hrel
    have HR := Lib.hid hrel
    clear hrel
    by_cases hlt : k < n
    · by_cases hk16 : k ≤ 16
      · obtain ⟨x, hxk⟩ : ∃ x, xs[k]? = some x := ⟨xs[k], List.getElem?_eq_getElem (by omega)⟩
        obtain ⟨g, o, hAe, hg, c0, c1, c2, c3, c4⟩ := (hA.below hb).at5 hxk
        subst hAe
        have HX := Lib.hid hxk
        clear hxk
        have C1 := Lib.hid (fun w => l8One_any x w)
        cases hv : rtB x with
        | false =>
          rw [hv] at C1
          have HV := Lib.hid (okA_no (bef := rtBef) HX.out hv)
          clear hv
          go_wp2_with fail
          refine wp_region_lat wr.heap.size (by kernel_rfl) (by kernel_rfl) ?_
          have LC := fun (u : Lat wr.heap.size wr) => u.cell
          repeat (go_big_quiet_step ((go_at_call 50; exact lat_call _ (Nat.le_refl _) (C1.out _))))
          refine wpQuiet_nil ?_
          intro w1 hw1
          clear LC
          go_wp2
          go_ret
          exact ⟨ret_bool (rtL_no (k := k) (by omega) HV.out).symm, hb.trans (hw1.mono hb.size)⟩
        | true =>
          rw [hv] at C1
          have HV := Lib.hid hv
          clear hv
          by_cases h0 : k ≤ 0
          · have hd : decide (0 < k) = false := by simp; omega
            have HN := Lib.hid (okA_first (bef := rtBef) HX.out HV.out (by omega))
            go_wp2_with fail
            refine wp_region_lat wr.heap.size (by kernel_rfl) (by kernel_rfl) ?_
            have LC := fun (u : Lat wr.heap.size wr) => u.cell
            repeat (go_big_quiet_step ((go_at_call 50; exact lat_call _ (Nat.le_refl _) (C1.out _))))
            refine wpQuiet_nil ?_
            intro w1 hw1
            clear LC
            have B1 := hb.trans (hw1.mono hb.size)
            obtain ⟨bc, bf⟩ := bcell hw1
            have s1 := hw1.size
            have hgw : g < w1.heap.size := by omega
            have X0 := (bc _ _ hg).trans c0
            have X1 := (bc _ _ hg).trans c1
            have X2 := (bc _ _ hg).trans c2
            have X3 := (bc _ _ hg).trans c3
            have X4 := (bc _ _ hg).trans c4
            clear bc bf c0 c1 c2 c3 c4
            go_wp2_with fail
            refine wp_region_lat w1.heap.size (by kernel_rfl) (by kernel_rfl) ?_
            have LC := fun (u : Lat w1.heap.size w1) => u.cell
            repeat (go_big_quiet_step (fail))
            refine wpQuiet_nil ?_
            intro w2 hw2
            clear LC
            go_wp2
            go_roundw
            case rel => exact ⟨k + 1, by omega, by go_num, rfl, HR.out.step HN.out, B1.trans (hw2.mono B1.size)⟩
            case measure => simp [intOf]; omega
          · obtain ⟨y, hyk⟩ : ∃ y, xs[k - 1]? = some y := ⟨xs[k - 1], List.getElem?_eq_getElem (by omega)⟩
            obtain ⟨g', o', hA', hg1, d0, d1, d2, d3, d4⟩ := (hA.below hb).at5 hyk
            injection hA' with hA'
            injection hA' with hA1 hA2
            subst hA1; subst hA2
            have hp : 0 < k := by omega
            have hvy : rtB y = true := okA_valid (HR.out (k - 1) (by omega)) hyk
            have HVY := Lib.hid hvy
            have HN := Lib.hid ((okA_next HX.out HV.out (by omega) hyk).trans (rt_spec HV.out hvy))
            clear hyk h0 hvy
            by_cases hq0 : rtKey x ≤ rtKey y
            · have hd1 : decide (rtKey x ≤ rtKey y) = true := by simp [hq0]
              have HN1 := Lib.hid (HN.out.trans (show _ = false by rw [hd1]; rfl))
              go_wp2_with fail
              refine wp_region_lat wr.heap.size (by kernel_rfl) (by kernel_rfl) ?_
              have LC := fun (u : Lat wr.heap.size wr) => u.cell
              repeat (go_big_quiet_step ((first | (go_at_call 50; exact lat_call _ (Nat.le_refl _) (C1.out _)) | (go_at_call 51; exact lat_call _ (Nat.le_refl _) (l8Code_any _ _ (by first | exact HVY.out | exact HV.out))))))
              refine wpQuiet_nil ?_
              intro w1 hw1
              clear LC
              go_wp2
              go_ret
              exact ⟨ret_bool (rtL_no (k := k) (by omega) HN1.out).symm, hb.trans (hw1.mono hb.size)⟩
            · have hd1 : decide (rtKey x ≤ rtKey y) = false := by simp; omega
              go_wp2_with fail
              refine wp_region_lat wr.heap.size (by kernel_rfl) (by kernel_rfl) ?_
              have LC := fun (u : Lat wr.heap.size wr) => u.cell
              repeat (go_big_quiet_step ((first | (go_at_call 50; exact lat_call _ (Nat.le_refl _) (C1.out _)) | (go_at_call 51; exact lat_call _ (Nat.le_refl _) (l8Code_any _ _ (by first | exact HVY.out | exact HV.out))))))
              refine wpQuiet_nil ?_
              intro w1 hw1
              clear LC
              have B1 := hb.trans (hw1.mono hb.size)
              obtain ⟨bc, bf⟩ := bcell hw1
              have s1 := hw1.size
              have hgw : g < w1.heap.size := by omega
              have X0 := (bc _ _ hg).trans c0
              have X1 := (bc _ _ hg).trans c1
              have X2 := (bc _ _ hg).trans c2
              have X3 := (bc _ _ hg).trans c3
              have X4 := (bc _ _ hg).trans c4
              have Y0 := (bc _ _ hg).trans d0
              have Y1 := (bc _ _ hg).trans d1
              have Y2 := (bc _ _ hg).trans d2
              have Y3 := (bc _ _ hg).trans d3
              have Y4 := (bc _ _ hg).trans d4
              clear bc bf c0 c1 c2 c3 c4 d0 d1 d2 d3 d4
              by_cases ha : y.a = x.a
              · have ha' : (y.a == x.a) = true := by simp [ha]
                have HA := Lib.hid ha
                clear ha
                by_cases hbb : y.b = x.b
                · have hb' : (y.b == x.b) = true := by simp [hbb]
                  have HBB := Lib.hid hbb
                  clear hbb
                  by_cases hd : x.c ≤ y.d
                  · have hd2 : decide (x.c ≤ y.d) = true := by simp [hd]
                    have HN1 := Lib.hid (HN.out.trans (show _ = false by simp [HA.out, HBB.out, hd]))
                    go_wp2_with fail
                    refine wp_region_lat w1.heap.size (by kernel_rfl) (by kernel_rfl) ?_
                    have LC := fun (u : Lat w1.heap.size w1) => u.cell
                    repeat (go_big_quiet_step (fail))
                    refine wpQuiet_nil ?_
                    intro w2 hw2
                    clear LC
                    go_wp2
                    go_ret
                    exact ⟨ret_bool (rtL_no (k := k) (by omega) HN1.out).symm, B1.trans (hw2.mono B1.size)⟩
                  · have hd2 : decide (x.c ≤ y.d) = false := by simp; omega
                    have HN1 := Lib.hid (HN.out.trans (show _ = true by rw [hd1, hd2]; simp))
                    go_wp2_with fail
                    refine wp_region_lat w1.heap.size (by kernel_rfl) (by kernel_rfl) ?_
                    have LC := fun (u : Lat w1.heap.size w1) => u.cell
                    repeat (go_big_quiet_step (fail))
                    refine wpQuiet_nil ?_
                    intro w2 hw2
                    clear LC
                    go_wp2
                    go_roundw
                    case rel => exact ⟨k + 1, by omega, by go_num, rfl, HR.out.step HN1.out, B1.trans (hw2.mono B1.size)⟩
                    case measure => simp [intOf]; omega
                · have hb' : (y.b == x.b) = false := by simp [hbb]
                  have HN1 := Lib.hid (HN.out.trans (show _ = true by rw [hd1]; simp [hbb]))
                  go_wp2_with fail
                  refine wp_region_lat w1.heap.size (by kernel_rfl) (by kernel_rfl) ?_
                  have LC := fun (u : Lat w1.heap.size w1) => u.cell
                  repeat (go_big_quiet_step (fail))
                  refine wpQuiet_nil ?_
                  intro w2 hw2
                  clear LC
                  go_wp2
                  go_roundw
                  case rel => exact ⟨k + 1, by omega, by go_num, rfl, HR.out.step HN1.out, B1.trans (hw2.mono B1.size)⟩
                  case measure => simp [intOf]; omega
              · have ha' : (y.a == x.a) = false := by simp [ha]
                have HN1 := Lib.hid (HN.out.trans (show _ = true by rw [hd1]; simp [ha]))
                go_wp2_with fail
                refine wp_region_lat w1.heap.size (by kernel_rfl) (by kernel_rfl) ?_
                have LC := fun (u : Lat w1.heap.size w1) => u.cell
                repeat (go_big_quiet_step (fail))
                refine wpQuiet_nil ?_
                intro w2 hw2
                clear LC
                go_wp2
                go_roundw
                case rel => exact ⟨k + 1, by omega, by go_num, rfl, HR.out.step HN1.out, B1.trans (hw2.mono B1.size)⟩
                case measure => simp [intOf]; omega
      · go_wp2
        go_ret
        exact ⟨ret_bool (by rw [rtL_long hn (by omega)]; simp; omega), hb⟩
    · go_wp2
      go_ret
      exact ⟨ret_bool (rtL_end HR.out hn (by omega)), hb⟩

end Go.Proofs.Ytobloedpmjkgpaa
