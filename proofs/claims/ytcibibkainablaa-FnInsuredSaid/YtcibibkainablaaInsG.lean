/- The under-insured items: the program's and the reference's loops append the same items. -/
import Derived.Test.YtcibibkainablaaInsE
import Derived.Test.YtcibibkainablaaRise
namespace Go.Proofs.Ytcibibkainablaa
set_option linter.unusedVariables false
set_option linter.unusedSimpArgs false
open Go.RowKit

noncomputable def uiG (xs : List R5) (zs ws : List Int) (day : Int) : Bool := insL xs && (decide (zs.length ≤ 12) && (decide (ws.length = zs.length) && (inAll zs 1 999 && (ascB zs && inR day 0 4000))))
noncomputable def uiB (xs : List R5) (zs ws : List Int) (day : Int) : Bool := uiG xs zs ws day && inAll ws 1 10000000
def uiN (xs : List R5) (zs ws : List Int) (day : Int) : Nat → List Int
  | 0 => []
  | k + 1 => uiN xs zs ws day k ++ if cov xs (zs.getD k 0) day < ws.getD k 0 then [zs.getD k 0] else []
noncomputable def uiV (xs : List R5) (zs ws : List Int) (day : Int) : List Int := if uiB xs zs ws day then uiN xs zs ws day zs.length else []
theorem uiN_len (xs : List R5) (zs ws : List Int) (day : Int) : ∀ k, (uiN xs zs ws day k).length ≤ k
  | 0 => by simp [uiN]
  | k + 1 => by have := uiN_len xs zs ws day k; unfold uiN; split <;> simp <;> omega
theorem ui_len (xs : List R5) (zs ws : List Int) (day : Int) : (uiV xs zs ws day).length ≤ 12 := by
  unfold uiV
  split
  · rename_i h
    have := uiN_len xs zs ws day zs.length
    simp only [uiB, uiG, Bool.and_eq_true, decide_eq_true_eq] at h
    omega
  · simp
theorem uiV_no {xs : List R5} {zs ws : List Int} {day : Int} (h : uiB xs zs ws day = false) : uiV xs zs ws day = [] := by simp [uiV, h]
def UiRel (W : World) (E : Nat) (xs : List R5) (zs ws : List Int) (day : Int) (k : Nat) (v : Value) (wr : World) : Prop :=
  wr.ownsRow W.heap.size E 1 v (uiN xs zs ws day k).length (cells1 (uiN xs zs ws day k)) ∧ Below W.heap.size W wr
section
variable {W wr w1 w2 : World} {E : Nat} {xs : List R5} {zs ws : List Int} {day : Int} {k : Nat} {v v' : Value} {x y : Int}
theorem uiN_yes (hx : zs[k]? = some x) (hy : ws[k]? = some y) (h : cov xs x day < y) : uiN xs zs ws day (k + 1) = uiN xs zs ws day k ++ [x] := by
  have e1 : zs.getD k 0 = x := by simp [List.getD_eq_getElem?_getD, hx]
  have e2 : ws.getD k 0 = y := by simp [List.getD_eq_getElem?_getD, hy]
  rw [uiN, e1, e2, if_pos h]
theorem uiN_not (hx : zs[k]? = some x) (hy : ws[k]? = some y) (h : ¬ cov xs x day < y) : uiN xs zs ws day (k + 1) = uiN xs zs ws day k := by
  have e1 : zs.getD k 0 = x := by simp [List.getD_eq_getElem?_getD, hx]
  have e2 : ws.getD k 0 = y := by simp [List.getD_eq_getElem?_getD, hy]
  rw [uiN, e1, e2, if_neg h, List.append_nil]
theorem UiRel.yes (h : UiRel W E xs zs ws day k v wr) (hx : zs[k]? = some x) (hy : ws[k]? = some y) (hlt : cov xs x day < y) (hb : Below W.heap.size wr w1)
    (ho1 : w1.ownsRow W.heap.size E 1 v (uiN xs zs ws day k).length (cells1 (uiN xs zs ws day k))) (ho : w2.ownsRow W.heap.size E 1 v' ((uiN xs zs ws day k).length + 1) (cells1 (uiN xs zs ws day k) ++ [.int .i64 x])) (hg : w1.grownBy w2 v.ownBlock) :
    UiRel W E xs zs ws day (k + 1) v' w2 := by
  obtain ⟨_, hB⟩ := h
  refine ⟨?_, (hB.trans hb).trans (below_app ho1 hg (hB.trans hb).size (Nat.le_refl _))⟩
  rw [uiN_yes hx hy hlt, cells1_append, List.length_append]
  exact ho
theorem UiRel.no (h : UiRel W E xs zs ws day k v wr) (hx : zs[k]? = some x) (hy : ws[k]? = some y) (hlt : ¬ cov xs x day < y) (hb : Below wr.heap.size wr w1) : UiRel W E xs zs ws day (k + 1) v w1 := by
  obtain ⟨ho, hB⟩ := h
  refine ⟨?_, hB.trans (hb.mono hB.size)⟩
  rw [uiN_not hx hy hlt]
  exact own_below ho hb
end

set_option maxHeartbeats 4000000 in
theorem specUnderInsured_any (A : Option Addr) (n c : Nat) (xs : List R5) (A1 : Option Addr) (n1 c1 : Nat) (zs : List Int) (A2 : Option Addr) (n2 c2 : Nat) (ws : List Int) (day : Int) (w : World)
    (hn : xs.length = n) (hA : Rd w A (cells5 xs)) (h20 : n ≤ 1048576) (hn1 : zs.length = n1) (hA1 : Rd w A1 (cells1 zs)) (h201 : n1 ≤ 1048576) (hn2 : ws.length = n2) (hA2 : Rd w A2 (cells1 ws)) (h202 : n2 ≤ 1048576) :
    Calls Try.prog 20 #[.slice A n c, .slice A1 n1 c1, .slice A2 n2 c2, .int .i64 day] w (RetOwnB 3 1 (uiV xs zs ws day).length (cells1 (uiV xs zs ws day)) (uiB xs zs ws day) w) := by
  have HE := Lib.hid (own_empty w w.heap.size 3 1 (Nat.le_refl _))
  cases hG : uiG xs zs ws day with
  | false =>
    have eB : uiB xs zs ws day = false := by rw [uiB, hG]; rfl
    rw [uiV_no eB, eB]
    go_enter Try.func20, Try.ntmps20
    go_wp2_with fail
    refine (l26Good_any A n c xs _ hn (hA.alloc _) h20).mono ?_
    rintro e w1 ⟨rfl, b1⟩
    have hA3 := Lib.hid ((hA1.alloc _).below b1)
    have HE1 := Lib.hid (own_below HE.out b1)
    have B1 : Below w.heap.size w w1 := ((Below.refl _ _).alloc (Nat.le_refl _) _).trans (b1.mono (by simp))
    go_wp2_with (first
      | (go_at_call 54; refine (l1Rising_any A1 n1 c1 zs 1 999 _ hn1 hA3.out h201).mono ?_; rintro e w2 ⟨rfl, b2⟩)
      | (go_at_call 46; refine (l2Day_any _ _).mono ?_; rintro e w' ⟨rfl, rfl⟩)
      | fail)
    any_goals
      go_ret2
      first
        | exact ⟨_, rfl, HE1.out, B1⟩
        | exact ⟨_, rfl, own_below HE1.out (by assumption), B1.trans (by have := B1.size; exact Below.mono (by assumption) this)⟩
    all_goals (exfalso; go_light; grind [uiG])
  | true =>
    have hG' := hG
    simp only [uiG, Bool.and_eq_true, decide_eq_true_eq] at hG'
    obtain ⟨hv, h12, hl, hia, has, hd⟩ := hG'
    have hn12 : n1 ≤ 12 := by omega
    have hn21 : n2 = n1 := by omega
    subst hn21
    have HV := Lib.hid hv
    have HN := Lib.hid (fun (k : Nat) (y : Int) (h : ws[k]? = some y) (h' : inR y 1 10000000 = false) => (show uiB xs zs ws day = false by rw [uiB, inAll_no h h', Bool.and_false]))
    have HY := Lib.hid (fun (k : Nat) (h : inAllP ws 1 10000000 k) (h' : ws.length ≤ k) => (show uiB xs zs ws day = true by rw [uiB, hG, inAll_yes h h']; rfl))
    have HYV := Lib.hid (fun (h : uiB xs zs ws day = true) => (show uiV xs zs ws day = uiN xs zs ws day zs.length by rw [uiV, if_pos h]))
    have C0 := Lib.hid (fun w h => l26Good_any A n c xs w hn h h20)
    have C1 := Lib.hid (fun w h => l1Rising_any A1 n2 c1 zs 1 999 w hn1 h h201)
    have C2 := Lib.hid (fun w => l2Day_any day w)
    have C3 := Lib.hid (fun x w h => l26Cover_any A n c xs x day w hn h hv)
    have CB := Lib.hid (fun x => cov_bd (xs := xs) hv x day)
    rw [hv] at C0
    rw [hia, has] at C1
    rw [hd] at C2
    clear hG hv h12 hl hia has hd
    go_enter Try.func20, Try.ntmps20
    go_wp2_with fail
    refine (C0.out _ (hA.alloc _)).mono ?_
    rintro e w1 ⟨rfl, b1⟩
    have hb1 : Below w.heap.size w w1 := ((Below.refl _ _).alloc (Nat.le_refl _) _).trans (b1.mono (by simp))
    have HE1 := Lib.hid (own_below HE.out b1)
    clear b1 HE
    go_wp2_with fail
    refine (C1.out _ (hA1.below hb1)).mono ?_
    rintro e w2 ⟨rfl, b2⟩
    have hb2 := hb1.trans (b2.mono hb1.size)
    have HE2 := Lib.hid (own_below HE1.out b2)
    clear b2 HE1 hb1
    go_wp2_with fail
    refine (C2.out _).mono ?_
    rintro e w3 ⟨rfl, rfl⟩
    go_wp2_with fail
    go_loopw [10, 11] (fun v i wr => ∃ (k : Nat), k ≤ n2 ∧ i = .int .i64 k ∧ inAllP ws 1 10000000 k ∧ UiRel w 3 xs zs ws day k v wr) (fun _ i _ => n2 - (intOf i).toNat)
    case atStart => exact ⟨0, by omega, rfl, fun j x hj => by omega, HE2.out, hb2⟩
    case round =>
      obtain ⟨k, hk, rfl, hall, hids⟩ := hrel
      have HI := Lib.hid hids
      have HAL := Lib.hid hall
      obtain ⟨ho, hb⟩ := hids
      clear hall HE2
      by_cases hlt : k < n2
      · obtain ⟨x, hxk⟩ : ∃ x, zs[k]? = some x := ⟨zs[k], List.getElem?_eq_getElem (by omega)⟩
        obtain ⟨y, hyk⟩ : ∃ y, ws[k]? = some y := ⟨ws[k], List.getElem?_eq_getElem (by omega)⟩
        obtain ⟨g, o, hAe, hg, c0⟩ := (hA1.below hb).at1 hxk
        subst hAe
        obtain ⟨g', o', hAe', hg', d0⟩ := (hA2.below hb).at1 hyk
        subst hAe'
        have HX := Lib.hid hxk
        have HYK := Lib.hid hyk
        have HRD := Lib.hid (hA.below hb)
        have C4 := Lib.hid (fun w => l26Cents_any y w)
        clear hxk hyk hA1 hA2 hA
        cases hw : inR y 1 10000000 with
        | false =>
          rw [hw] at C4
          have e1 := HN.out k y HYK.out hw
          have E1 := Lib.hid e1
          clear e1 hw
          rw [uiV_no E1.out, E1.out]
          go_wp2_with fail
          refine (C4.out _).mono ?_
          rintro e w4 ⟨rfl, rfl⟩
          go_wp2
          go_ret2
          exact ⟨_, rfl, own_empty wr w.heap.size 3 1 hb.size, hb.alloc hb.size _⟩
        | true =>
          rw [hw] at C4
          have HAL1 := Lib.hid (HAL.out.step HYK.out hw)
          clear hw
          obtain ⟨q, hq⟩ : ∃ q, q = cov xs x day := ⟨_, rfl⟩
          have C5 := Lib.hid (C3.out x)
          rw [← hq] at C5
          have hbd := CB.out x
          rw [← hq] at hbd
          have HQ := Lib.hid hq
          have hlen := uiN_len xs zs ws day k
          clear hq
          by_cases hlt2 : q < y
          · have hd2 : decide (q < y) = true := by simp [hlt2]
            go_wp2_with fail
            refine (C4.out _).mono ?_
            rintro e w4 ⟨rfl, rfl⟩
            go_wp2_with fail
            refine wp_region_lat wr.heap.size (by kernel_rfl) (by kernel_rfl) ?_
            have LC := fun (u : Lat wr.heap.size wr) => u.cell
            repeat (go_big_quiet_step ((go_at_call 43; exact lat_call _ (Nat.le_refl _) (C5.out _ (HRD.out.below (Lat.below _))))))
            refine wpQuiet_nil ?_
            intro w5 hb5
            clear LC
            obtain ⟨bc, bf⟩ := bcell hb5
            have hb5' := hb5.mono hb.size
            have hs5 := (hb.trans hb5').size
            have HO1 := Lib.hid (own_below ho hb5)
            have HO2 := Lib.hid (fun o1 => HO1.out.alloc o1)
            clear ho HO1
            go_wp2_with (at_builtin; go_must (refine wpList_app _ rfl (.tmp 64) (.tmp 69) 37 rfl w.heap.size 3 _ 1 8 Try.underlying37 info3 rfl (by omega) _ _ _ rfl (HO2.out _) _ 1 1 [.int .i64 x] rfl rfl (rd_new #[.int .i64 x] 3 (by simp)) (oneCell_ints [x]) (by unfold maxLen; omega) (by omega) (by simp; omega) ?_); intro v' w' o' g' d')
            have R2 := Lib.hid (HI.out.yes HX.out HYK.out (by rw [← HQ.out]; exact hlt2) (hb5'.trans ((Below.refl _ _).alloc hs5 _)) (HO2.out _) o' g')
            go_roundw
            case rel => exact ⟨k + 1, by omega, by go_num, HAL1.out, R2.out⟩
            case measure => simp [intOf]; omega
          · have hd2 : decide (q < y) = false := by simp [hlt2]
            go_wp2_with fail
            refine (C4.out _).mono ?_
            rintro e w4 ⟨rfl, rfl⟩
            go_wp2_with fail
            refine wp_region_lat wr.heap.size (by kernel_rfl) (by kernel_rfl) ?_
            have LC := fun (u : Lat wr.heap.size wr) => u.cell
            repeat (go_big_quiet_step ((go_at_call 43; exact lat_call _ (Nat.le_refl _) (C5.out _ (HRD.out.below (Lat.below _))))))
            refine wpQuiet_nil ?_
            intro w5 hb5
            clear LC
            go_wp2
            go_roundw
            case rel => exact ⟨k + 1, by omega, by go_num, HAL1.out, HI.out.no HX.out HYK.out (by rw [← HQ.out]; omega) hb5⟩
            case measure => simp [intOf]; omega
      · have e1 := HY.out k HAL.out (by omega)
        have E1 := Lib.hid e1
        have E2 := Lib.hid (HYV.out e1)
        clear e1
        have HK := Lib.hid (show zs.length = k by omega)
        go_wp2
        go_ret2
        rw [E2.out, E1.out, HK.out]
        exact ⟨_, rfl, HI.out.1, HI.out.2⟩
/-- The program's own guard: the items' range is tested in the loop. -/
noncomputable def uiH (xs : List R5) (zs ws : List Int) (day : Int) : Bool := insL xs && (decide (zs.length ≤ 12) && (ascB zs && (decide (ws.length = zs.length) && inR day 0 4000)))
theorem uiB_eq (xs : List R5) (zs ws : List Int) (day : Int) : uiB xs zs ws day = (uiH xs zs ws day && (inAll zs 1 999 && inAll ws 1 10000000)) := by
  unfold uiB uiG uiH
  simp only [Bool.and_assoc, Bool.and_comm, Bool.and_left_comm]

set_option maxHeartbeats 4000000 in
theorem implUnderInsured_any (A : Option Addr) (n c : Nat) (xs : List R5) (A1 : Option Addr) (n1 c1 : Nat) (zs : List Int) (A2 : Option Addr) (n2 c2 : Nat) (ws : List Int) (day : Int) (w : World)
    (hn : xs.length = n) (hA : Rd w A (cells5 xs)) (h20 : n ≤ 1048576) (hn1 : zs.length = n1) (hA1 : Rd w A1 (cells1 zs)) (h201 : n1 ≤ 1048576) (hn2 : ws.length = n2) (hA2 : Rd w A2 (cells1 ws)) (h202 : n2 ≤ 1048576) :
    Calls Try.prog 19 #[.slice A n c, .slice A1 n1 c1, .slice A2 n2 c2, .int .i64 day] w (RetOwnB 3 1 (uiV xs zs ws day).length (cells1 (uiV xs zs ws day)) (uiB xs zs ws day) w) := by
  cases hG : uiH xs zs ws day with
  | false =>
    have eB : uiB xs zs ws day = false := by rw [uiB_eq, hG]; rfl
    rw [uiV_no eB, eB]
    go_enter Try.func19, Try.ntmps19
    go_wp2_with fail
    refine (areInsured_any A n c xs _ hn hA h20).mono ?_
    rintro e w1 ⟨rfl, b1⟩
    have hA3 := Lib.hid (hA1.below b1)
    go_wp2_with (first
      | (go_at_call 53; refine (ascending_any A1 n1 c1 zs _ hn1 hA3.out h201).mono ?_; rintro e w2 ⟨rfl, b2⟩)
      | (go_at_call 38; refine (isDay_any _ _).mono ?_; rintro e w' ⟨rfl, rfl⟩)
      | fail)
    any_goals
      go_ret2
      first
        | exact ⟨.slice none 0 0, rfl, World.ownsRow_nil _ _ _ _, b1⟩
        | exact ⟨.slice none 0 0, rfl, World.ownsRow_nil _ _ _ _, b1.trans (by have := b1.size; exact Below.mono (by assumption) this)⟩
    all_goals (exfalso; go_light; grind [uiH])
  | true =>
    have hG' := hG
    simp only [uiH, Bool.and_eq_true, decide_eq_true_eq] at hG'
    obtain ⟨hv, h12, has, hl, hd⟩ := hG'
    have hn12 : n1 ≤ 12 := by omega
    have hn21 : n2 = n1 := by omega
    subst hn21
    have HV := Lib.hid hv
    have HN0 := Lib.hid (fun (k : Nat) (y : Int) (h : zs[k]? = some y) (h' : inR y 1 999 = false) => (show uiB xs zs ws day = false by rw [uiB_eq, inAll_no h h', Bool.false_and, Bool.and_false]))
    have HN := Lib.hid (fun (k : Nat) (y : Int) (h : ws[k]? = some y) (h' : inR y 1 10000000 = false) => (show uiB xs zs ws day = false by rw [uiB_eq, inAll_no h h', Bool.and_false, Bool.and_false]))
    have HY := Lib.hid (fun (k : Nat) (g : inAllP zs 1 999 k) (g' : zs.length ≤ k) (h : inAllP ws 1 10000000 k) (h' : ws.length ≤ k) => (show uiB xs zs ws day = true by rw [uiB_eq, hG, inAll_yes g g', inAll_yes h h']; rfl))
    have HYV := Lib.hid (fun (h : uiB xs zs ws day = true) => (show uiV xs zs ws day = uiN xs zs ws day zs.length by rw [uiV, if_pos h]))
    have C0 := Lib.hid (fun w h => areInsured_any A n c xs w hn h h20)
    have C1 := Lib.hid (fun w h => ascending_any A1 n2 c1 zs w hn1 h h201)
    have C2 := Lib.hid (fun w => isDay_any day w)
    have C3 := Lib.hid (fun x w h => coverOn_any A n c xs x day w hn h hv)
    have CB := Lib.hid (fun x => cov_bd (xs := xs) hv x day)
    rw [hv] at C0
    rw [has] at C1
    rw [hd] at C2
    clear hG hv h12 hl has hd
    go_enter Try.func19, Try.ntmps19
    have hd12 : decide (12 < n2) = false := by simp; omega
    go_wp2_with fail
    refine (C0.out _ hA).mono ?_
    rintro e w1 ⟨rfl, hb1⟩
    go_wp2_with fail
    all_goals try (exfalso; omega)
    refine (C1.out _ (hA1.below hb1)).mono ?_
    rintro e w2 ⟨rfl, b2⟩
    have hb2 := hb1.trans (b2.mono hb1.size)
    clear b2 hb1
    go_wp2_with fail
    refine (C2.out _).mono ?_
    rintro e w3 ⟨rfl, rfl⟩
    go_wp2_with fail
    go_loopw [10, 40] (fun v i wr => ∃ (k : Nat), k ≤ n2 ∧ i = .int .i64 k ∧ inAllP zs 1 999 k ∧ inAllP ws 1 10000000 k ∧ UiRel w 3 xs zs ws day k v wr) (fun _ i _ => n2 - (intOf i).toNat)
    case atStart => exact ⟨0, by omega, rfl, fun j x hj => by omega, fun j x hj => by omega, World.ownsRow_nil _ _ _ _, hb2⟩
    case round =>
      obtain ⟨k, hk, rfl, hall0, hall, hids⟩ := hrel
      have HI := Lib.hid hids
      have HAL0 := Lib.hid hall0
      have HAL := Lib.hid hall
      obtain ⟨ho, hb⟩ := hids
      clear hall hall0
      by_cases hlt : k < n2
      · obtain ⟨x, hxk⟩ : ∃ x, zs[k]? = some x := ⟨zs[k], List.getElem?_eq_getElem (by omega)⟩
        obtain ⟨y, hyk⟩ : ∃ y, ws[k]? = some y := ⟨ws[k], List.getElem?_eq_getElem (by omega)⟩
        obtain ⟨g, o, hAe, hg, c0⟩ := (hA1.below hb).at1 hxk
        subst hAe
        obtain ⟨g', o', hAe', hg', d0⟩ := (hA2.below hb).at1 hyk
        subst hAe'
        have HX := Lib.hid hxk
        have HYK := Lib.hid hyk
        have HRD := Lib.hid (hA.below hb)
        have C4 := Lib.hid (fun w => isItem_any x w)
        have C6 := Lib.hid (fun w => isWorth_any y w)
        clear hxk hyk hA1 hA2 hA
        cases hw0 : inR x 1 999 with
        | false =>
          rw [hw0] at C4
          have e1 := HN0.out k x HX.out hw0
          have E1 := Lib.hid e1
          clear e1 hw0
          go_wp2_with fail
          refine (C4.out _).mono ?_
          rintro e w4 ⟨rfl, rfl⟩
          go_wp2
          go_ret2
          rw [uiV_no E1.out, E1.out]
          exact ⟨.slice none 0 0, rfl, World.ownsRow_nil _ _ _ _, hb⟩
        | true =>
        rw [hw0] at C4
        have HAL01 := Lib.hid (HAL0.out.step HX.out hw0)
        clear hw0
        cases hw : inR y 1 10000000 with
        | false =>
          rw [hw] at C6
          have e1 := HN.out k y HYK.out hw
          have E1 := Lib.hid e1
          clear e1 hw
          go_wp2_with fail
          refine (C4.out _).mono ?_
          rintro e w4 ⟨rfl, rfl⟩
          go_wp2_with fail
          refine (C6.out _).mono ?_
          rintro e w4 ⟨rfl, rfl⟩
          go_wp2
          go_ret2
          rw [uiV_no E1.out, E1.out]
          exact ⟨.slice none 0 0, rfl, World.ownsRow_nil _ _ _ _, hb⟩
        | true =>
          rw [hw] at C6
          have HAL1 := Lib.hid (HAL.out.step HYK.out hw)
          clear hw
          obtain ⟨q, hq⟩ : ∃ q, q = cov xs x day := ⟨_, rfl⟩
          have C5 := Lib.hid (C3.out x)
          rw [← hq] at C5
          have hbd := CB.out x
          rw [← hq] at hbd
          have HQ := Lib.hid hq
          have hlen := uiN_len xs zs ws day k
          clear hq
          by_cases hlt2 : q < y
          · have hd2 : decide (q < y) = true := by simp [hlt2]
            go_wp2_with fail
            refine (C4.out _).mono ?_
            rintro e w4 ⟨rfl, rfl⟩
            go_wp2_with fail
            refine (C6.out _).mono ?_
            rintro e w4 ⟨rfl, rfl⟩
            go_wp2_with fail
            refine wp_region_lat wr.heap.size (by kernel_rfl) (by kernel_rfl) ?_
            have LC := fun (u : Lat wr.heap.size wr) => u.cell
            repeat (go_big_quiet_step ((go_at_call 39; exact lat_call _ (Nat.le_refl _) (C5.out _ (HRD.out.below (Lat.below _))))))
            refine wpQuiet_nil ?_
            intro w5 hb5
            clear LC
            obtain ⟨bc, bf⟩ := bcell hb5
            have hb5' := hb5.mono hb.size
            have hs5 := (hb.trans hb5').size
            have HO1 := Lib.hid (own_below ho hb5)
            have HO2 := Lib.hid (fun o1 => HO1.out.alloc o1)
            clear ho HO1
            go_wp2_with (at_builtin; go_must (refine wpList_app _ rfl (.tmp 65) (.tmp 67) 37 rfl w.heap.size 3 _ 1 8 Try.underlying37 info3 rfl (by omega) _ _ _ rfl (HO2.out _) _ 1 1 [.int .i64 x] rfl rfl (rd_new #[.int .i64 x] 3 (by simp)) (oneCell_ints [x]) (by unfold maxLen; omega) (by omega) (by simp; omega) ?_); intro v' w' o' g' d')
            have R2 := Lib.hid (HI.out.yes HX.out HYK.out (by rw [← HQ.out]; exact hlt2) (hb5'.trans ((Below.refl _ _).alloc hs5 _)) (HO2.out _) o' g')
            go_roundw
            case rel => exact ⟨k + 1, by omega, by go_num, HAL01.out, HAL1.out, R2.out⟩
            case measure => simp [intOf]; omega
          · have hd2 : decide (q < y) = false := by simp [hlt2]
            go_wp2_with fail
            refine (C4.out _).mono ?_
            rintro e w4 ⟨rfl, rfl⟩
            go_wp2_with fail
            refine (C6.out _).mono ?_
            rintro e w4 ⟨rfl, rfl⟩
            go_wp2_with fail
            refine wp_region_lat wr.heap.size (by kernel_rfl) (by kernel_rfl) ?_
            have LC := fun (u : Lat wr.heap.size wr) => u.cell
            repeat (go_big_quiet_step ((go_at_call 39; exact lat_call _ (Nat.le_refl _) (C5.out _ (HRD.out.below (Lat.below _))))))
            refine wpQuiet_nil ?_
            intro w5 hb5
            clear LC
            go_wp2
            go_roundw
            case rel => exact ⟨k + 1, by omega, by go_num, HAL01.out, HAL1.out, HI.out.no HX.out HYK.out (by rw [← HQ.out]; omega) hb5⟩
            case measure => simp [intOf]; omega
      · have e1 := HY.out k HAL0.out (by omega) HAL.out (by omega)
        have E1 := Lib.hid e1
        have E2 := Lib.hid (HYV.out e1)
        clear e1
        have HK := Lib.hid (show zs.length = k by omega)
        go_wp2
        go_ret2
        rw [E2.out, E1.out, HK.out]
        exact ⟨_, rfl, HI.out.1, HI.out.2⟩
end Go.Proofs.Ytcibibkainablaa
