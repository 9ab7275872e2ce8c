/- BookText of the reference. -/
import Derived.Test.YtacacibpehnmgaaGreatDoorTBk
namespace Go.Proofs.YtacacibpehnmgaaGreatDoor
set_option linter.unusedVariables false
set_option linter.unusedSimpArgs false
open Go.RowKit

set_option maxRecDepth 20000 in
set_option maxHeartbeats 4000000 in
theorem specBookText_any (A : Option Addr) (n c : Nat) (xs : List BR) (w : World) (hn : xs.length = n) (hA : RdB w A xs) (h20 : n ≤ 1048576) (hw : ∀ x ∈ xs, x.ws.length ≤ 1048576) :
    Calls Tryz.prog 24 #[.slice A n c] w (Ret (.tuple #[.string (bkV xs), .bool (bookB xs)]) w) := by
  have C0 := Lib.hid (l27Good_any A n c xs w hn hA (by omega) (fun x hx => by have := hw x hx; omega))
  have HA := Lib.hid hA
  clear hA
  cases hv : bookB xs with
  | false =>
    rw [hv] at C0
    have HV := Lib.hid (show bkV xs = ⟨#[]⟩ by rw [bkV, hv]; rfl)
    clear hv
    go_enter Tryz.func24, Tryz.ntmps24
    go_wp2_with fail
    refine C0.out.mono ?_
    rintro e w1 ⟨rfl, b1⟩
    go_wp2
    go_ret2
    exact ⟨by first | (rw [HV.out]; done) | (rw [HV.out]; rfl), b1⟩
  | true =>
    rw [hv] at C0
    have HV := Lib.hid (show bkV xs = bkP xs xs.length by rw [bkV, hv]; rfl)
    have HR := Lib.hid (fun k x (h : xs[k]? = some x) => bookB_row hv h)
    have HP := Lib.hid (bkP_size hv)
    have h8 := (bookB_yes hv).2
    have HN := Lib.hid hn
    clear hv hn hw
    go_enter Tryz.func24, Tryz.ntmps24
    go_wp2_with fail
    refine C0.out.mono ?_
    rintro e w1 ⟨rfl, b1⟩
    have HB1 := Lib.hid b1
    clear b1
    go_wp2_with fail
    go_loopw [4, 5] (fun s i wr => ∃ k : Nat, k ≤ n ∧ i = .int .i64 k ∧ s = .string (bkP xs k) ∧ Below w.heap.size w wr) (fun _ i _ => n - (intOf i).toNat)
    case atStart => exact ⟨0, Nat.zero_le _, rfl, rfl, HB1.out⟩
    case round =>
      obtain ⟨k, hk, rfl, rfl, hbr⟩ := hrel
      have HBR := Lib.hid hbr
      obtain ⟨S, hS⟩ : ∃ S, S = bkP xs k := ⟨_, rfl⟩
      have hSz : S.size ≤ 1520 := by have := HP.out k (by have := HN.out; omega); rw [← hS] at this; have := HN.out; omega
      rw [← hS]
      have HSK := Lib.hid hS
      clear hS
      by_cases hlt : k < n
      · obtain ⟨x, hxk⟩ : ∃ x, xs[k]? = some x := ⟨xs[k]'(by have := HN.out; omega), List.getElem?_eq_getElem _⟩
        obtain ⟨⟨hi0, hi1⟩, hrow⟩ := HR.out k x hxk
        have hzR := bkR_size (s := S) hi1 hrow
        obtain ⟨hl12, hws⟩ := row_ws hrow
        have HWS := Lib.hid hws
        have HST := Lib.hid ((bkP_step hxk).trans (by rw [← HSK.out] : bkR (bkP xs k) x = bkR S x))
        obtain ⟨g, o, B, cc, rfl, hg, c0, c1, hc1, hc2, hrd⟩ := (HA.out.below hbr).at hxk
        have HRD := Lib.hid (hrd)
        have HXK := Lib.hid hxk
        clear hxk hrow hws hrd
        obtain ⟨Ta, hTa⟩ : ∃ T, T = nuJ x.id := ⟨_, rfl⟩
        have za : Ta.size ≤ 13 := by rw [hTa]; exact nuJ_size (by omega)
        have Ca := Lib.hid (fun w => l1Num_J x.id (by omega) (by omega) w)
        rw [← hTa] at Ca
        obtain ⟨S1, hS1⟩ : ∃ S1, S1 = (S ++ Ta) ++ (⟨#[58]⟩ : ByteArray) := ⟨_, rfl⟩
        have l58 : ((⟨#[58]⟩ : ByteArray)).size = 1 := rfl
        have l59 : ((⟨#[59]⟩ : ByteArray)).size = 1 := rfl
        have l44 : ((⟨#[44]⟩ : ByteArray)).size = 1 := rfl
        have hS1z : S1.size ≤ 1540 := by rw [hS1]; simp only [ByteArray.size_append]; omega
        have HS1 := Lib.hid hS1
        have HSB := Lib.hid (show bkR S x = bkW S1 x.ws x.ws.length ++ (⟨#[59]⟩ : ByteArray) by rw [bkR, hS1, hTa])
        have HWZ := Lib.hid (bkW_size (s := S1) (ws := x.ws) (fun w h => by have := (HWS.out w h).2; omega))
        clear hS1 hTa
        go_wp2_with fail
        refine (Ca.out _).mono ?_
        rintro e w2 ⟨rfl, b2⟩
        have HB2 := Lib.hid (hbr.trans (b2.mono hbr.size))
        clear c0 c1 b2
        go_wp2_with fail
        rw [← HS1.out]
        go_loopw [4, 6] (fun s i wr => ∃ j : Nat, j ≤ x.ws.length ∧ i = .int .i64 j ∧ s = .string (bkW S1 x.ws j) ∧ Below w.heap.size w wr) (fun _ i _ => x.ws.length - (intOf i).toNat)
        case atStart => exact ⟨0, Nat.zero_le _, rfl, rfl, HB2.out⟩
        case round =>
          obtain ⟨j, hj, rfl, rfl, hb4⟩ := hrel
          have HB4 := Lib.hid hb4
          obtain ⟨g', o', B', cc', hAe, hg4, d0, d1, -, -, hrd4⟩ := (HA.out.below hb4).at HXK.out
          injection hAe with hAe
          injection hAe with hA1 hA2
          subst hA1; subst hA2
          obtain ⟨Z, hZ⟩ : ∃ Z, Z = bkW S1 x.ws j := ⟨_, rfl⟩
          have hZz : Z.size ≤ 1800 := by have := HWZ.out j hj; rw [← hZ] at this; omega
          rw [← hZ]
          have HZ := Lib.hid hZ
          clear hZ
          by_cases hlj : j < x.ws.length
          · obtain ⟨z, hzj⟩ : ∃ z, x.ws[j]? = some z := ⟨x.ws[j], List.getElem?_eq_getElem hlj⟩
            obtain ⟨hz0, hz1⟩ := HWS.out z (List.mem_of_getElem? hzj)
            have HZJ := Lib.hid hzj
            obtain ⟨gb, ob, rfl, hgb, e0⟩ := hrd4.at1 hzj
            clear hzj
            obtain ⟨Tz, hTz⟩ : ∃ T, T = nuJ z := ⟨_, rfl⟩
            have zz : Tz.size ≤ 13 := by rw [hTz]; exact nuJ_size (by omega)
            have Cz := Lib.hid (fun w => l1Num_J z (by omega) (by omega) w)
            rw [← hTz] at Cz
            have HTZ := Lib.hid hTz
            clear hTz
            by_cases hj0 : j = 0
            · subst hj0
              simp only [Nat.add_zero] at e0
              have HN1 := Lib.hid (show bkW S1 x.ws (0 + 1) = Z ++ Tz by rw [bkW, if_pos rfl, ← HZ.out, HZJ.out, HTZ.out]; rfl)
              go_wp2_with fail
              refine (Cz.out _).mono ?_
              rintro e w5 ⟨rfl, b5⟩
              have HB5 := Lib.hid (hb4.trans (b5.mono hb4.size))
              go_wp2
              go_roundw
              case rel => exact ⟨0 + 1, by omega, by go_num, by rw [HN1.out], HB5.out⟩
              case measure => simp [intOf]; omega
            · have hd1 : decide (0 < j) = true := by simp; omega
              have hjp : 0 < j := by omega
              have HN1 := Lib.hid (show bkW S1 x.ws (j + 1) = (Z ++ (⟨#[44]⟩ : ByteArray)) ++ Tz by rw [bkW, if_neg hj0, ← HZ.out, HZJ.out, HTZ.out]; rfl)
              have hZ2 : (Z ++ (⟨#[44]⟩ : ByteArray)).size ≤ 1801 := by rw [ByteArray.size_append]; omega
              go_wp2_with fail
              refine (Cz.out _).mono ?_
              rintro e w5 ⟨rfl, b5⟩
              have HB5 := Lib.hid (hb4.trans (b5.mono hb4.size))
              go_wp2
              go_roundw
              case rel => exact ⟨j + 1, by omega, by go_num, by rw [HN1.out], HB5.out⟩
              case measure => simp [intOf]; omega
          · have hd : decide (j < x.ws.length) = false := by simpa using hlj
            have HJE := Lib.hid (show j = x.ws.length by omega)
            have HN1 := Lib.hid (show bkP xs (k + 1) = Z ++ (⟨#[59]⟩ : ByteArray) by rw [HST.out, HSB.out, HZ.out, HJE.out])
            go_wp2
            go_roundw
            case rel => exact ⟨k + 1, by omega, by go_num, by rw [HN1.out], HB4.out⟩
            case measure => simp [intOf]; omega
      · have hd : decide (k < n) = false := by simpa using hlt
        have HKE := Lib.hid (show k = n by omega)
        go_wp2
        go_ret2
        exact ⟨by rw [HV.out, HN.out, ← HKE.out, ← HSK.out]; rfl, HBR.out⟩
end Go.Proofs.YtacacibpehnmgaaGreatDoor
