/- ShortestChain and FirstChainDay: the program's functions and the reference's return one value. -/
import Derived.Test.YtpmklcpplpnlhaaTreH
import Derived.Test.YtpmklcpplpnlhaaTreK
import Derived.Test.YtpmklcpplpnlhaaTreI
namespace Go.Proofs.Ytpmklcpplpnlhaa
set_option linter.unusedVariables false
set_option linter.unusedSimpArgs false
open Go.RowKit

noncomputable def scV (xs : List R5) (a b day : Int) : List Int := if askB xs a b day then chV (adjT xs day) a b else []
noncomputable def scB (xs : List R5) (a b day : Int) : Bool := askB xs a b day && decide (0 < (chV (adjT xs day) a b).length)
theorem sc_len (xs : List R5) (a b day : Int) : (scV xs a b day).length ≤ 9 := by
  unfold scV; split
  · exact chV_len _ _
  · simp

theorem l25AskedB (A : Option Addr) (n c : Nat) (xs : List R5) (a b day : Int) (w : World) (hn : xs.length = n) (hA : Rd w A (cells5 xs)) (h20 : n ≤ 1048576) :
    Calls Try.prog 56 #[.slice A n c, .int .i64 a, .int .i64 b, .int .i64 day] w (Ret (.bool (askB xs a b day)) w) := l25Asked_any A n c xs a b day w hn hA h20

set_option maxHeartbeats 2000000 in
theorem specShortestChain_any (A : Option Addr) (n c : Nat) (xs : List R5) (a b day : Int) (w : World) (hn : xs.length = n) (hA : Rd w A (cells5 xs)) (h20 : n ≤ 1048576) :
    Calls Try.prog 24 #[.slice A n c, .int .i64 a, .int .i64 b, .int .i64 day] w (RetOwnB 3 1 (scV xs a b day).length (cells1 (scV xs a b day)) (scB xs a b day) w) := by
  have C0 := Lib.hid (fun w h => l25AskedB A n c xs a b day w hn h h20)
  cases hB : askB xs a b day with
  | false =>
    rw [hB] at C0
    rw [show scV xs a b day = [] by simp [scV, hB], show scB xs a b day = false by simp [scB, hB]]
    clear hB
    go_enter Try.func24, Try.ntmps24
    go_wp2_with fail
    refine (C0.out _ hA).mono ?_
    rintro e w1 ⟨rfl, b1⟩
    go_wp2
    go_ret2
    exact ⟨_, rfl, own_empty _ _ _ _ b1.size, b1.alloc b1.size _⟩
  | true =>
    rw [hB] at C0
    obtain ⟨hv, ⟨a1, a2⟩, ⟨b1, b2⟩, hab, d1, d2⟩ := askB_yes hB
    obtain ⟨p, rfl⟩ := Int.eq_ofNat_of_zero_le a1
    obtain ⟨q, rfl⟩ := Int.eq_ofNat_of_zero_le b1
    have C1 := Lib.hid (fun w h => l25Chain_any A n c xs p q day w hn h hv (by omega) (by omega))
    obtain ⟨L, hL⟩ : ∃ L, L = chV (adjT xs day) p q := ⟨_, rfl⟩
    rw [← hL] at C1
    rw [show scV xs p q day = L by simp [scV, hB, hL], show scB xs p q day = decide (0 < L.length) by simp [scB, hB, hL]]
    obtain ⟨m, hm⟩ : ∃ m, m = L.length := ⟨_, rfl⟩
    rw [← hm] at C1
    rw [← hm]
    clear hB hL hv hab hm
    by_cases hp : 0 < m
    · have hd : decide (0 < m) = true := by simp [hp]
      rw [hd]
      go_enter Try.func24, Try.ntmps24
      go_wp2_with fail
      refine (C0.out _ hA).mono ?_
      rintro e w1 ⟨rfl, b1⟩
      go_wp2_with fail
      refine (C1.out _ (hA.below b1)).mono ?_
      rintro e w2 ⟨v, rfl, o2, b2⟩
      obtain ⟨Av, cv, rfl⟩ := own_form o2
      have HO := Lib.hid (own_mono o2 b1.size)
      clear o2
      go_wp2
      go_ret2
      exact ⟨_, rfl, HO.out, b1.trans (b2.mono b1.size)⟩
    · have hd : decide (0 < m) = false := by simp; omega
      rw [hd]
      go_enter Try.func24, Try.ntmps24
      go_wp2_with fail
      refine (C0.out _ hA).mono ?_
      rintro e w1 ⟨rfl, b1⟩
      go_wp2_with fail
      refine (C1.out _ (hA.below b1)).mono ?_
      rintro e w2 ⟨v, rfl, o2, b2⟩
      obtain ⟨Av, cv, rfl⟩ := own_form o2
      have HO := Lib.hid (own_mono o2 b1.size)
      clear o2
      go_wp2
      go_ret2
      exact ⟨_, rfl, HO.out, b1.trans (b2.mono b1.size)⟩

set_option maxHeartbeats 2000000 in
theorem implShortestChain_any (A : Option Addr) (n c : Nat) (xs : List R5) (a b day : Int) (w : World) (hn : xs.length = n) (hA : Rd w A (cells5 xs)) (h20 : n ≤ 1048576) :
    Calls Try.prog 23 #[.slice A n c, .int .i64 a, .int .i64 b, .int .i64 day] w (RetOwnB 3 1 (scV xs a b day).length (cells1 (scV xs a b day)) (scB xs a b day) w) := by
  cases hB : askB xs a b day with
  | false =>
    rw [show scV xs a b day = [] by simp [scV, hB], show scB xs a b day = false by simp [scB, hB]]
    go_enter Try.func23, Try.ntmps23
    go_wp2_with fail
    refine (areTreaties_any A n c xs _ hn hA h20).mono ?_
    rintro e w1 ⟨rfl, b1⟩
    go_wp2_with (first
      | (go_at_call 54; refine (isPost_any _ _).mono ?_; rintro e w' ⟨rfl, rfl⟩)
      | (go_at_call 35; refine (isDay_any _ _).mono ?_; rintro e w' ⟨rfl, rfl⟩)
      | fail)
    any_goals (go_ret2; exact ⟨_, rfl, World.ownsRow_nil _ _ _ _, b1⟩)
    all_goals (exfalso; go_light; grind [askB])
  | true =>
    obtain ⟨hv, ⟨a1, a2⟩, ⟨b1, b2⟩, hab, d1, d2⟩ := askB_yes hB
    have C0 := Lib.hid (fun w h => areTreaties_any A n c xs w hn h h20)
    have C2 := Lib.hid (fun w => isPost_any a w)
    have C3 := Lib.hid (fun w => isPost_any b w)
    have C4 := Lib.hid (fun w => isDay_any day w)
    rw [hv] at C0
    rw [inR_true.2 ⟨a1, a2⟩] at C2
    rw [inR_true.2 ⟨b1, b2⟩] at C3
    rw [inR_true.2 ⟨d1, d2⟩] at C4
    have heq : (a == b) = false := by simp [hab]
    obtain ⟨p, rfl⟩ := Int.eq_ofNat_of_zero_le a1
    obtain ⟨q, rfl⟩ := Int.eq_ofNat_of_zero_le b1
    have C1 := Lib.hid (fun w h => shortestChain_any A n c xs p q day w hn h hv (by omega) (by omega))
    rw [show scV xs p q day = chV (adjT xs day) p q by simp [scV, hB], show scB xs p q day = decide (0 < (chV (adjT xs day) p q).length) by simp [scB, hB]]
    clear hB hv hab
    go_enter Try.func23, Try.ntmps23
    go_wp2_with fail
    refine (C0.out _ hA).mono ?_
    rintro e w1 ⟨rfl, b1⟩
    go_wp2_with fail
    refine (C2.out _).mono ?_
    rintro e w' ⟨rfl, rfl⟩
    go_wp2_with fail
    refine (C3.out _).mono ?_
    rintro e w' ⟨rfl, rfl⟩
    go_wp2_with fail
    refine (C4.out _).mono ?_
    rintro e w' ⟨rfl, rfl⟩
    go_wp2_with fail
    refine (C1.out _ (hA.below b1)).mono ?_
    rintro e w2 ⟨v, rfl, o2, b2⟩
    go_wp2
    go_ret2
    exact ⟨_, rfl, own_mono o2 b1.size, b1.trans (b2.mono b1.size)⟩

set_option maxHeartbeats 2000000 in
theorem implFirstChainDay_any (A : Option Addr) (n c : Nat) (xs : List R5) (a b day : Int) (w : World) (hn : xs.length = n) (hA : Rd w A (cells5 xs)) (h20 : n ≤ 1048576) :
    Calls Try.prog 26 #[.slice A n c, .int .i64 a, .int .i64 b, .int .i64 day] w (Ret (.tuple #[.int .i64 (fcV xs a b day).1, .bool (fcV xs a b day).2]) w) := by
  cases hB : askB xs a b day with
  | false =>
    rw [show fcV xs a b day = (0, false) by simp [fcV, hB]]
    go_enter Try.func26, Try.ntmps26
    go_wp2_with fail
    refine (areTreaties_any A n c xs _ hn hA h20).mono ?_
    rintro e w1 ⟨rfl, b1⟩
    go_wp2_with (first
      | (go_at_call 54; refine (isPost_any _ _).mono ?_; rintro e w' ⟨rfl, rfl⟩)
      | (go_at_call 35; refine (isDay_any _ _).mono ?_; rintro e w' ⟨rfl, rfl⟩)
      | fail)
    any_goals (go_ret2; exact ⟨rfl, b1⟩)
    all_goals (exfalso; go_light; grind [askB])
  | true =>
    obtain ⟨hv, ⟨a1, a2⟩, ⟨b1, b2⟩, hab, d1, d2⟩ := askB_yes hB
    have C0 := Lib.hid (fun w h => areTreaties_any A n c xs w hn h h20)
    have C2 := Lib.hid (fun w => isPost_any a w)
    have C3 := Lib.hid (fun w => isPost_any b w)
    have C4 := Lib.hid (fun w => isDay_any day w)
    rw [hv] at C0
    rw [inR_true.2 ⟨a1, a2⟩] at C2
    rw [inR_true.2 ⟨b1, b2⟩] at C3
    rw [inR_true.2 ⟨d1, d2⟩] at C4
    have heq : (a == b) = false := by simp [hab]
    obtain ⟨p, rfl⟩ := Int.eq_ofNat_of_zero_le a1
    obtain ⟨q, rfl⟩ := Int.eq_ofNat_of_zero_le b1
    have C1 := Lib.hid (fun d w h => shortestChain_any A n c xs p q d w hn h hv (by omega) (by omega))
    rw [show fcV xs p q day = fcF xs p q (4001 - day).toNat day by simp [fcV, hB]]
    clear hB hv hab
    go_enter Try.func26, Try.ntmps26
    go_wp2_with fail
    refine (C0.out _ hA).mono ?_
    rintro e w1 ⟨rfl, b1⟩
    go_wp2_with fail
    refine (C2.out _).mono ?_
    rintro e w' ⟨rfl, rfl⟩
    go_wp2_with fail
    refine (C3.out _).mono ?_
    rintro e w' ⟨rfl, rfl⟩
    go_wp2_with fail
    refine (C4.out _).mono ?_
    rintro e w' ⟨rfl, rfl⟩
    go_wp2_with fail
    have HA1 := Lib.hid (hA.below b1)
    clear hA
    go_loopw [10, 11, 12] (fun d _ _ wr => ∃ (j : Int), day ≤ j ∧ j ≤ 4001 ∧ d = .int .i64 j ∧ fcF xs p q (4001 - day).toNat day = fcF xs p q (4001 - j).toNat j ∧ Below w1.heap.size w1 wr) (fun d _ _ _ => (4001 - intOf d).toNat)
    case atStart => exact ⟨day, by omega, by omega, rfl, rfl, Below.refl _ _⟩
    case round =>
      obtain ⟨j, hj1, hj2, rfl, hrel, hb⟩ := hrel
      have HR := Lib.hid hrel
      clear hrel
      by_cases hlt : j ≤ 4000
      · go_wp2_with fail
        refine (C1.out j _ (HA1.out.below hb)).mono ?_
        rintro e w3 ⟨v3, rfl, o3, b3⟩
        obtain ⟨z, hz⟩ : ∃ z, z = decide (0 < (chV (adjT xs j) p q).length) := ⟨_, rfl⟩
        rw [← hz]
        have HZ := Lib.hid hz
        clear hz o3
        cases z with
        | true =>
          have HF := Lib.hid (HR.out.trans (fcF_yes (show chB xs p q j = true from HZ.out.symm) hlt))
          go_wp2
          go_ret2
          exact ⟨ret_fc HF.out, b1.trans ((hb.trans (b3.mono hb.size)).mono b1.size)⟩
        | false =>
          have HF := Lib.hid (HR.out.trans (fcF_no (show chB xs p q j = false from HZ.out.symm) hlt))
          go_wp2
          go_roundw
          case rel => exact ⟨j + 1, by omega, by omega, by go_num, HF.out, hb.trans (b3.mono hb.size)⟩
          case measure => simp [intOf]; omega
      · go_wp2
        go_ret2
        exact ⟨ret_fc (HR.out.trans (fcF_end (by omega))), b1.trans (hb.mono b1.size)⟩

set_option maxHeartbeats 4000000 in
theorem specFirstChainDay_any (A : Option Addr) (n c : Nat) (xs : List R5) (a b day : Int) (w : World) (hn : xs.length = n) (hA : Rd w A (cells5 xs)) (h20 : n ≤ 1048576) :
    Calls Try.prog 27 #[.slice A n c, .int .i64 a, .int .i64 b, .int .i64 day] w (Ret (.tuple #[.int .i64 (fcV xs a b day).1, .bool (fcV xs a b day).2]) w) := by
  have C0 := Lib.hid (fun w h => l25AskedB A n c xs a b day w hn h h20)
  cases hB : askB xs a b day with
  | false =>
    rw [hB] at C0
    rw [show fcV xs a b day = (0, false) by simp [fcV, hB]]
    clear hB
    go_enter Try.func27, Try.ntmps27
    go_wp2_with fail
    refine (C0.out _ hA).mono ?_
    rintro e w1 ⟨rfl, b1⟩
    go_wp2
    go_ret2
    exact ⟨rfl, b1⟩
  | true =>
    rw [hB] at C0
    obtain ⟨hv, ⟨a1, a2⟩, ⟨b1, b2⟩, hab, d1, d2⟩ := askB_yes hB
    obtain ⟨p, rfl⟩ := Int.eq_ofNat_of_zero_le a1
    obtain ⟨q, rfl⟩ := Int.eq_ofNat_of_zero_le b1
    have C1 := Lib.hid (fun d w h => l25Chain_any A n c xs p q d w hn h hv (by omega) (by omega))
    have HV := Lib.hid hv
    rw [show fcV xs p q day = fcF xs p q (4001 - day).toNat day by simp [fcV, hB]]
    clear hB hv hab
    go_enter Try.func27, Try.ntmps27
    go_wp2_with fail
    refine (C0.out _ hA).mono ?_
    rintro e w1 ⟨rfl, b1⟩
    go_wp2_with fail
    refine (C1.out _ _ (hA.below b1)).mono ?_
    rintro e w2 ⟨v, rfl, o2, b2⟩
    obtain ⟨Av, cv, rfl⟩ := own_form o2
    have hb2 := b1.trans (b2.mono b1.size)
    obtain ⟨m, hm⟩ : ∃ m, m = (chV (adjT xs day) p q).length := ⟨_, rfl⟩
    rw [← hm]
    have HM := Lib.hid hm
    clear o2 hm
    by_cases hp : 0 < m
    · have HF := Lib.hid (fcF_yes (xs := xs) (a := p) (b := q) (d := day) (by rw [chB, ← HM.out]; simp [hp]) d2)
      go_wp2
      go_ret2
      exact ⟨ret_fc HF.out, hb2⟩
    · have HNO := Lib.hid (show chB xs p q day = false by rw [chB, ← HM.out]; simp; omega)
      go_wp2_with fail
      go_loopw [10, 11, 12] (fun bst i _ wr => ∃ (k : Nat) (best : Int), k ≤ n ∧ i = .int .i64 k ∧ bst = .int .i64 best ∧ FcRel xs p q day k best ∧ Below w2.heap.size w2 wr) (fun _ i _ _ => n - (intOf i).toNat)
      case atStart => exact ⟨0, -1, by omega, rfl, rfl, .zero, Below.refl _ _⟩
      case round =>
        obtain ⟨k, best, hk, rfl, rfl, hrel, hb⟩ := hrel
        have HR := Lib.hid hrel
        clear hrel
        by_cases hlt : k < n
        · obtain ⟨x, hxk⟩ : ∃ x, xs[k]? = some x := ⟨xs[k], List.getElem?_eq_getElem (by omega)⟩
          obtain ⟨g, o, hAe, hg, c0, c1, c2, c3, c4⟩ := ((hA.below hb2).below hb).at5 hxk
          have HX := Lib.hid hxk
          have HBD := trB_bd (trL_at HV.out hxk)
          obtain ⟨-, -, -, ⟨e1, e2⟩, -⟩ := HBD
          have HA3 := Lib.hid ((hA.below hb2).below hb)
          subst hAe
          clear hxk
          by_cases hgt : day < x.c
          · by_cases hbb : best < 0 ∨ x.c < best
            · by_cases hb0 : best < 0
              · go_wp2_with fail
                refine (C1.out _ _ HA3.out).mono ?_
                rintro e w3 ⟨v3, rfl, o3, b3⟩
                obtain ⟨Av3, cv3, rfl⟩ := own_form o3
                obtain ⟨m3, hm3⟩ : ∃ m, m = (chV (adjT xs x.c) p q).length := ⟨_, rfl⟩
                rw [← hm3]
                have HM3 := Lib.hid hm3
                clear o3 hm3
                by_cases hp3 : 0 < m3
                · have HN := Lib.hid (HR.out.take HX.out hgt e2 hbb d1 (by rw [chB, ← HM3.out]; simp [hp3]))
                  go_wp2
                  go_roundw
                  case rel => exact ⟨k + 1, x.c, by omega, by go_num, rfl, HN.out, hb.trans (b3.mono hb.size)⟩
                  case measure => simp [intOf]; omega
                · have HN := Lib.hid (HR.out.skip HX.out d1 (.inr (.inr (by rw [chB, ← HM3.out]; simp; omega))))
                  go_wp2
                  go_roundw
                  case rel => exact ⟨k + 1, best, by omega, by go_num, rfl, HN.out, hb.trans (b3.mono hb.size)⟩
                  case measure => simp [intOf]; omega
              · have hb1 : x.c < best := by omega
                go_wp2_with fail
                refine (C1.out _ _ HA3.out).mono ?_
                rintro e w3 ⟨v3, rfl, o3, b3⟩
                obtain ⟨Av3, cv3, rfl⟩ := own_form o3
                obtain ⟨m3, hm3⟩ : ∃ m, m = (chV (adjT xs x.c) p q).length := ⟨_, rfl⟩
                rw [← hm3]
                have HM3 := Lib.hid hm3
                clear o3 hm3
                by_cases hp3 : 0 < m3
                · have HN := Lib.hid (HR.out.take HX.out hgt e2 hbb d1 (by rw [chB, ← HM3.out]; simp [hp3]))
                  go_wp2
                  go_roundw
                  case rel => exact ⟨k + 1, x.c, by omega, by go_num, rfl, HN.out, hb.trans (b3.mono hb.size)⟩
                  case measure => simp [intOf]; omega
                · have HN := Lib.hid (HR.out.skip HX.out d1 (.inr (.inr (by rw [chB, ← HM3.out]; simp; omega))))
                  go_wp2
                  go_roundw
                  case rel => exact ⟨k + 1, best, by omega, by go_num, rfl, HN.out, hb.trans (b3.mono hb.size)⟩
                  case measure => simp [intOf]; omega
            · have hb0 : ¬ best < 0 := by omega
              have hb1 : ¬ x.c < best := by omega
              have HN := Lib.hid (HR.out.skip HX.out d1 (.inr (.inl ⟨by omega, by omega⟩)))
              clear hbb
              go_wp2
              go_roundw
              case rel => exact ⟨k + 1, best, by omega, by go_num, rfl, HN.out, hb⟩
              case measure => simp [intOf]; omega
          · have HN := Lib.hid (HR.out.skip HX.out d1 (.inl hgt))
            go_wp2
            go_roundw
            case rel => exact ⟨k + 1, best, by omega, by go_num, rfl, HN.out, hb⟩
            case measure => simp [intOf]; omega
        · have HF := Lib.hid (HR.out.done (by omega) d1 d2 HNO.out)
          by_cases hb0 : best < 0
          · go_wp2
            go_ret2
            exact ⟨ret_fc (by rw [HF.out, if_pos hb0]), hb2.trans (hb.mono hb2.size)⟩
          · go_wp2
            go_ret2
            exact ⟨ret_fc (by rw [HF.out, if_neg (by omega)]), hb2.trans (hb.mono hb2.size)⟩
end Go.Proofs.Ytpmklcpplpnlhaa
