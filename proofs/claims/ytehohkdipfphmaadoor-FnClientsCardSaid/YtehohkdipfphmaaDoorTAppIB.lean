/- ApprovalText of the program. -/
import Derived.Test.YtehohkdipfphmaaDoorTAppB
namespace Go.Proofs.YtehohkdipfphmaaDoor
set_option linter.unusedVariables false
set_option linter.unusedSimpArgs false
open Go.RowKit

set_option maxRecDepth 20000 in
set_option maxHeartbeats 4000000 in
theorem implApprovalText_any (x : AR) (B : Option Addr) (c : Nat) (D : Option Addr) (d : Nat) (w : World) (hB : Rd w B (cells1 x.items)) (hD : Rd w D (cells1 x.kept)) (hs : smA x) (hc : x.client.size ≤ maxLen ∧ (x.items.length ≤ c ∧ c ≤ maxLen) ∧ (x.kept.length ≤ d ∧ d ≤ maxLen)) (ht : ∀ w', Below w.heap.size w w' → Lib.TabIs Tryd.prog w' "internal/strconv.uint64pow10" .u64 Lib.pow10Tab) :
    Calls Tryd.prog 21 #[.agg #[.int .i64 x.id, .string x.client, .int .i64 x.sent, .slice B x.items.length c, .slice D x.kept.length d, .int .i64 x.back]] w (Ret (.tuple #[.string (atV x), .bool (oneA x)]) w) := by
  have HT := Lib.hid ht
  clear ht
  have C0 : Hid (∀ w g, RdA w (some ⟨g, 0, none⟩) [x] → Calls Tryd.prog 25 #[.slice (some ⟨g, 0, none⟩) 1 1] w (Ret (.bool (oneA x)) w)) := Lib.hid (fun w g h => by
    have := areApprovals_any (some ⟨g, 0, none⟩) 1 1 [x] w rfl h (by omega) (fun y hy => by simp at hy; subst hy; exact hs) ⟨by omega, by unfold maxLen; omega⟩
    rw [good_one] at this
    exact this)
  have HRA : Hid (∀ W, Below w.heap.size w W → RdA (W.alloc (.cells #[.int .i64 x.id, .string x.client, .int .i64 x.sent, .slice B x.items.length c, .slice D x.kept.length d, .int .i64 x.back] 34)) (some ⟨W.heap.size, 0, none⟩) [x]) := Lib.hid (fun W hW => by
    refine .inr ⟨W.heap.size, 0, rfl, by simp, fun k y hy => ?_⟩
    have hk : k = 0 := by have := (List.getElem?_eq_some_iff.1 hy).1; simpa using this
    subst hk
    simp at hy; subst hy
    exact ⟨hc.1, World.cell?_alloc_at _ _ _ _ rfl, World.cell?_alloc_at _ _ _ _ rfl, World.cell?_alloc_at _ _ _ _ rfl, ⟨_, World.cell?_alloc_at _ _ _ _ rfl, B, c, rfl, hc.2.1.1, hc.2.1.2, (hB.below hW).alloc _⟩, ⟨_, World.cell?_alloc_at _ _ _ _ rfl, D, d, rfl, hc.2.2.1, hc.2.2.2, (hD.below hW).alloc _⟩, World.cell?_alloc_at _ _ _ _ rfl⟩)
  have HRA1 : Hid (RdA ((w.alloc (.cells #[.int .i64 x.id, .string x.client, .int .i64 x.sent, .slice B x.items.length c, .slice D x.kept.length d, .int .i64 x.back] 34)).alloc (.cells #[.int .i64 x.id, .string x.client, .int .i64 x.sent, .slice B x.items.length c, .slice D x.kept.length d, .int .i64 x.back] 34)) (some ⟨w.heap.size + 1, 0, none⟩) [x]) := Lib.hid (by have h := HRA.out (w.alloc (.cells #[.int .i64 x.id, .string x.client, .int .i64 x.sent, .slice B x.items.length c, .slice D x.kept.length d, .int .i64 x.back] 34)) ((Below.refl _ _).alloc (Nat.le_refl _) _); rw [World.size_alloc] at h; exact h)
  have HB := Lib.hid hB
  have HD := Lib.hid hD
  have HSM := Lib.hid hs
  have HY := Lib.hid (fun W (h : Below (w.heap.size + 1) (w.alloc (.cells #[.int .i64 x.id, .string x.client, .int .i64 x.sent, .slice B x.items.length c, .slice D x.kept.length d, .int .i64 x.back] 34)) W) => (Blk.new w [.int .i64 x.id, .string x.client, .int .i64 x.sent, .slice B x.items.length c, .slice D x.kept.length d, .int .i64 x.back] 34).below h (by omega))
  have HBX := Lib.hid (fun W (h : Below (w.heap.size + 1) (w.alloc (.cells #[.int .i64 x.id, .string x.client, .int .i64 x.sent, .slice B x.items.length c, .slice D x.kept.length d, .int .i64 x.back] 34)) W) => Below.trans ((Below.refl w.heap.size w).alloc (Nat.le_refl _) (.cells #[.int .i64 x.id, .string x.client, .int .i64 x.sent, .slice B x.items.length c, .slice D x.kept.length d, .int .i64 x.back] 34)) (h.mono (Nat.le_succ _)))
  clear hB hD hs hc
  cases hv : oneA x with
  | false =>
    rw [hv] at C0
    have HV := Lib.hid (show atV x = ⟨#[]⟩ by rw [atV, hv]; rfl)
    clear hv
    go_enter Tryd.func21, Tryd.ntmps21
    go_wp2_with fail
    refine (C0.out _ (w.heap.size + 1) HRA1.out).mono ?_
    rintro e w1 ⟨rfl, b1⟩
    have B1 : Below (w.heap.size + 1) (w.alloc (.cells #[.int .i64 x.id, .string x.client, .int .i64 x.sent, .slice B x.items.length c, .slice D x.kept.length d, .int .i64 x.back] 34)) w1 := Below.trans ((Below.refl (w.heap.size + 1) (w.alloc (.cells #[.int .i64 x.id, .string x.client, .int .i64 x.sent, .slice B x.items.length c, .slice D x.kept.length d, .int .i64 x.back] 34))).alloc (by simp) _) (b1.mono (by first | (simp; done) | (simp; omega)))
    have HB1 := Lib.hid B1
    clear b1 B1
    go_wp2
    go_ret2
    exact ⟨by first | (rw [HV.out]; done) | (rw [HV.out]; rfl), HBX.out _ HB1.out⟩
  | true =>
    rw [hv] at C0
    have HV := Lib.hid (show atV x = atP x x.items.length by rw [atV, hv]; rfl)
    obtain ⟨⟨ha0, ha1⟩, hcl, hil, hzb⟩ := one_more hv
    obtain ⟨⟨hs0, hs1⟩, hbk⟩ := one_bd hv
    have HZB := Lib.hid hzb
    have HPS := Lib.hid (atP_size hv)
    have HBS := Lib.hid (atB_size hv)
    have hkl : x.kept.length ≤ 1048576 := HSM.out.2.2
    clear hv hzb
    obtain ⟨Ta, hTa⟩ : ∃ T, T = numI x.id := ⟨_, rfl⟩
    have za : Ta.size ≤ 13 := by rw [hTa]; exact numI_size (by omega)
    have Ca := Lib.hid (fun w' h => itoa_int x.id (by omega) (by omega) w' (HT.out w' h))
    rw [← hTa] at Ca
    obtain ⟨Ts, hTs⟩ : ∃ T, T = numI x.sent := ⟨_, rfl⟩
    have zs : Ts.size ≤ 13 := by rw [hTs]; exact numI_size (by omega)
    have Cs := Lib.hid (fun w' h => itoa_int x.sent (by omega) (by omega) w' (HT.out w' h))
    rw [← hTs] at Cs
    obtain ⟨S1, hS1⟩ : ∃ S, S = atH x := ⟨_, rfl⟩
    have HS1 : Hid ((((((⟨#[97]⟩ : ByteArray) ++ Ta) ++ (⟨#[32]⟩ : ByteArray)) ++ x.client) ++ (⟨#[32]⟩ : ByteArray)) ++ Ts = S1) := Lib.hid (by rw [hS1, atH, hTa, hTs])
    have hS1z : S1.size ≤ 60 := by rw [← HS1.out]; have l1 : ((⟨#[97]⟩ : ByteArray)).size = 1 := rfl; have l2 : ((⟨#[32]⟩ : ByteArray)).size = 1 := rfl; simp only [ByteArray.size_append]; omega
    have HSH := Lib.hid hS1
    clear hS1 hTa hTs
    go_enter Tryd.func21, Tryd.ntmps21
    go_wp2_with fail
    refine (C0.out _ (w.heap.size + 1) HRA1.out).mono ?_
    rintro e w1 ⟨rfl, b1⟩
    have B1 : Below (w.heap.size + 1) (w.alloc (.cells #[.int .i64 x.id, .string x.client, .int .i64 x.sent, .slice B x.items.length c, .slice D x.kept.length d, .int .i64 x.back] 34)) w1 := Below.trans ((Below.refl (w.heap.size + 1) (w.alloc (.cells #[.int .i64 x.id, .string x.client, .int .i64 x.sent, .slice B x.items.length c, .slice D x.kept.length d, .int .i64 x.back] 34))).alloc (by simp) _) (b1.mono (by first | (simp; done) | (simp; omega)))
    have HB1 := Lib.hid B1
    clear b1 B1
    have y0 := (HY.out _ HB1.out).cell 0 _ rfl
    have y1 := (HY.out _ HB1.out).cell 1 _ rfl
    have y2 := (HY.out _ HB1.out).cell 2 _ rfl
    have y3 := (HY.out _ HB1.out).cell 3 _ rfl
    have y4 := (HY.out _ HB1.out).cell 4 _ rfl
    have y5 := (HY.out _ HB1.out).cell 5 _ rfl
    have hy := (HY.out _ HB1.out).lt
    go_wp2_with fail
    refine wp_region_lat w1.heap.size (by kernel_rfl) (by kernel_rfl) ?_
    have LC := fun (u : Lat w1.heap.size w1) => u.cell
    have hz1 : w.heap.size + 1 ≤ w1.heap.size := by omega
    repeat (go_big_quiet_step ((first | (go_at_call 48; (with_reducible exact lat_call _ (Nat.le_refl _) (Ca.out _ (HBX.out _ (HB1.out.trans ((Lat.below _).mono hz1)))))) | (go_at_call 48; (with_reducible exact lat_call _ (Nat.le_refl _) (Cs.out _ (HBX.out _ (HB1.out.trans ((Lat.below _).mono hz1)))))))))
    refine wpQuiet_nil ?_
    intro w2 hw2
    clear LC
    have HB2 := Lib.hid (HB1.out.trans (hw2.mono (by omega)))
    clear hw2 y0 y1 y2 y3 y4 y5 hy
    rw [HS1.out]
    have y0 := (HY.out _ HB2.out).cell 0 _ rfl
    have y1 := (HY.out _ HB2.out).cell 1 _ rfl
    have y2 := (HY.out _ HB2.out).cell 2 _ rfl
    have y3 := (HY.out _ HB2.out).cell 3 _ rfl
    have y4 := (HY.out _ HB2.out).cell 4 _ rfl
    have y5 := (HY.out _ HB2.out).cell 5 _ rfl
    have hy := (HY.out _ HB2.out).lt
    by_cases hbk1 : x.back = -1
    · have f1 : (decide (0 ≤ x.back) = false) := by simp [hbk1]
      have HS3 : Hid (atP x 0 = S1 ++ (⟨#[58]⟩ : ByteArray)) := Lib.hid (by rw [atP, List.take_zero, List.foldl_nil, atB, if_pos hbk1, HSH.out])
      clear hbk1 hbk
      go_wp2_with fail
      go_loopw [4, 38] (fun s i wr => ∃ k : Nat, k ≤ x.items.length ∧ i = .int .i64 k ∧ s = .string (atP x k) ∧ Below (w.heap.size + 1) (w.alloc (.cells #[.int .i64 x.id, .string x.client, .int .i64 x.sent, .slice B x.items.length c, .slice D x.kept.length d, .int .i64 x.back] 34)) wr) (fun _ i _ => x.items.length - (intOf i).toNat)
      case atStart => exact ⟨0, Nat.zero_le _, rfl, by rw [HS3.out], HB2.out⟩
      case round =>
        clear y0 y1 y2 y3 y4 y5 hy
        obtain ⟨k, hk, rfl, rfl, hbr⟩ := hrel
        have HBR := Lib.hid hbr
        have y0 := (HY.out _ hbr).cell 0 _ rfl
        have y1 := (HY.out _ hbr).cell 1 _ rfl
        have y2 := (HY.out _ hbr).cell 2 _ rfl
        have y3 := (HY.out _ hbr).cell 3 _ rfl
        have y4 := (HY.out _ hbr).cell 4 _ rfl
        have y5 := (HY.out _ hbr).cell 5 _ rfl
        have hy := (HY.out _ hbr).lt
        obtain ⟨S, hS⟩ : ∃ S, S = atP x k := ⟨_, rfl⟩
        have hSz : S.size ≤ 200 := by have := HPS.out k hk; rw [← hS] at this; omega
        rw [← hS]
        have HSK := Lib.hid hS
        clear hS
        by_cases hlt : k < x.items.length
        · obtain ⟨z, hzk⟩ : ∃ z, x.items[k]? = some z := ⟨x.items[k], List.getElem?_eq_getElem hlt⟩
          obtain ⟨hz0, hz1x⟩ := HZB.out k z hzk
          have HST := Lib.hid (atP_step hzk)
          obtain ⟨g, og, rfl, hg, c0⟩ := (HB.out.below (HBX.out _ hbr)).at1 hzk
          clear hzk
          obtain ⟨Tz, hTz⟩ : ∃ T, T = numI z := ⟨_, rfl⟩
          have zz : Tz.size ≤ 13 := by rw [hTz]; exact numI_size (by omega)
          have Cz := Lib.hid (fun w' h => itoa_int z (by omega) (by omega) w' (HT.out w' h))
          rw [← hTz] at Cz
          have CK := Lib.hid (fun w h => containsInt_any D _ d x.kept z w rfl h hkl)
          cases p : hasB x.kept z with
          | false =>
            rw [p] at CK
            have HN1 : Hid (atP x (k + 1) = (S ++ ((⟨#[32]⟩ : ByteArray) ++ Tz))) := Lib.hid (by rw [HST.out, ← HSK.out, hTz, atStep, if_neg (by rw [p]; simp)]; simp only [ByteArray.append_assoc])
            clear p hTz
            go_wp2_with fail
            refine (Cz.out _ (HBX.out _ hbr)).mono ?_
            rintro e w4 ⟨rfl, b4⟩
            have hb4 := hbr.trans (b4.mono (by omega))
            have HB4 := Lib.hid hb4
            have d0 := (b4.cell (p := ⟨g, og + k, none⟩) hg).trans c0
            have hg4 : g < w4.heap.size := Nat.lt_of_lt_of_le hg b4.size
            clear y0 y1 y2 y3 y4 y5 hy c0 b4 hg
            have y0 := (HY.out _ hb4).cell 0 _ rfl
            have y1 := (HY.out _ hb4).cell 1 _ rfl
            have y2 := (HY.out _ hb4).cell 2 _ rfl
            have y3 := (HY.out _ hb4).cell 3 _ rfl
            have y4 := (HY.out _ hb4).cell 4 _ rfl
            have y5 := (HY.out _ hb4).cell 5 _ rfl
            have hy := (HY.out _ hb4).lt
            have HDK := Lib.hid (HD.out.below (HBX.out _ hb4))
            go_wp2_with fail
            refine (CK.out _ HDK.out).mono ?_
            rintro e w5 ⟨rfl, rfl⟩
            go_wp2
            go_roundw
            case rel => exact ⟨k + 1, by omega, by go_num, by rw [HN1.out], HB4.out⟩
            case measure => simp [intOf]; omega
          | true =>
            rw [p] at CK
            have HN1 : Hid (atP x (k + 1) = ((S ++ ((⟨#[32]⟩ : ByteArray) ++ Tz)) ++ (⟨#[42]⟩ : ByteArray))) := Lib.hid (by rw [HST.out, ← HSK.out, hTz, atStep, if_pos (by rw [p])]; simp only [ByteArray.append_assoc])
            clear p hTz
            go_wp2_with fail
            refine (Cz.out _ (HBX.out _ hbr)).mono ?_
            rintro e w4 ⟨rfl, b4⟩
            have hb4 := hbr.trans (b4.mono (by omega))
            have HB4 := Lib.hid hb4
            have d0 := (b4.cell (p := ⟨g, og + k, none⟩) hg).trans c0
            have hg4 : g < w4.heap.size := Nat.lt_of_lt_of_le hg b4.size
            clear y0 y1 y2 y3 y4 y5 hy c0 b4 hg
            have y0 := (HY.out _ hb4).cell 0 _ rfl
            have y1 := (HY.out _ hb4).cell 1 _ rfl
            have y2 := (HY.out _ hb4).cell 2 _ rfl
            have y3 := (HY.out _ hb4).cell 3 _ rfl
            have y4 := (HY.out _ hb4).cell 4 _ rfl
            have y5 := (HY.out _ hb4).cell 5 _ rfl
            have hy := (HY.out _ hb4).lt
            have HDK := Lib.hid (HD.out.below (HBX.out _ hb4))
            go_wp2_with fail
            refine (CK.out _ HDK.out).mono ?_
            rintro e w5 ⟨rfl, rfl⟩
            go_wp2
            go_roundw
            case rel => exact ⟨k + 1, by omega, by go_num, by rw [HN1.out], HB4.out⟩
            case measure => simp [intOf]; omega
        · have hd : decide (k < x.items.length) = false := by simpa using hlt
          have HKE := Lib.hid (show k = x.items.length by omega)
          go_wp2
          go_ret2
          exact ⟨by rw [HV.out, ← HKE.out, ← HSK.out]; rfl, HBX.out _ HBR.out⟩
    · have f1 : (decide (0 ≤ x.back) = true) := by simp; omega
      obtain ⟨Tb, hTb⟩ : ∃ T, T = numI x.back := ⟨_, rfl⟩
      have zb : Tb.size ≤ 13 := by rw [hTb]; exact numI_size (by omega)
      have Cb := Lib.hid (fun w' h => itoa_int x.back (by omega) (by omega) w' (HT.out w' h))
      rw [← hTb] at Cb
      have HS3 : Hid (atP x 0 = (S1 ++ ((⟨#[45]⟩ : ByteArray) ++ Tb)) ++ (⟨#[58]⟩ : ByteArray)) := Lib.hid (by rw [atP, List.take_zero, List.foldl_nil, atB, if_neg hbk1, HSH.out, hTb]; simp only [ByteArray.append_assoc])
      clear hbk1 hTb
      go_wp2_with fail
      refine (Cb.out _ (HBX.out _ HB2.out)).mono ?_
      rintro e w3 ⟨rfl, b3⟩
      have HB3 := Lib.hid (HB2.out.trans (b3.mono (by omega)))
      clear b3 y0 y1 y2 y3 y4 y5 hy hbk
      have y0 := (HY.out _ HB3.out).cell 0 _ rfl
      have y1 := (HY.out _ HB3.out).cell 1 _ rfl
      have y2 := (HY.out _ HB3.out).cell 2 _ rfl
      have y3 := (HY.out _ HB3.out).cell 3 _ rfl
      have y4 := (HY.out _ HB3.out).cell 4 _ rfl
      have y5 := (HY.out _ HB3.out).cell 5 _ rfl
      have hy := (HY.out _ HB3.out).lt
      go_wp2_with fail
      go_loopw [4, 38] (fun s i wr => ∃ k : Nat, k ≤ x.items.length ∧ i = .int .i64 k ∧ s = .string (atP x k) ∧ Below (w.heap.size + 1) (w.alloc (.cells #[.int .i64 x.id, .string x.client, .int .i64 x.sent, .slice B x.items.length c, .slice D x.kept.length d, .int .i64 x.back] 34)) wr) (fun _ i _ => x.items.length - (intOf i).toNat)
      case atStart => exact ⟨0, Nat.zero_le _, rfl, by rw [HS3.out], HB3.out⟩
      case round =>
        clear y0 y1 y2 y3 y4 y5 hy
        obtain ⟨k, hk, rfl, rfl, hbr⟩ := hrel
        have HBR := Lib.hid hbr
        have y0 := (HY.out _ hbr).cell 0 _ rfl
        have y1 := (HY.out _ hbr).cell 1 _ rfl
        have y2 := (HY.out _ hbr).cell 2 _ rfl
        have y3 := (HY.out _ hbr).cell 3 _ rfl
        have y4 := (HY.out _ hbr).cell 4 _ rfl
        have y5 := (HY.out _ hbr).cell 5 _ rfl
        have hy := (HY.out _ hbr).lt
        obtain ⟨S, hS⟩ : ∃ S, S = atP x k := ⟨_, rfl⟩
        have hSz : S.size ≤ 200 := by have := HPS.out k hk; rw [← hS] at this; omega
        rw [← hS]
        have HSK := Lib.hid hS
        clear hS
        by_cases hlt : k < x.items.length
        · obtain ⟨z, hzk⟩ : ∃ z, x.items[k]? = some z := ⟨x.items[k], List.getElem?_eq_getElem hlt⟩
          obtain ⟨hz0, hz1x⟩ := HZB.out k z hzk
          have HST := Lib.hid (atP_step hzk)
          obtain ⟨g, og, rfl, hg, c0⟩ := (HB.out.below (HBX.out _ hbr)).at1 hzk
          clear hzk
          obtain ⟨Tz, hTz⟩ : ∃ T, T = numI z := ⟨_, rfl⟩
          have zz : Tz.size ≤ 13 := by rw [hTz]; exact numI_size (by omega)
          have Cz := Lib.hid (fun w' h => itoa_int z (by omega) (by omega) w' (HT.out w' h))
          rw [← hTz] at Cz
          have CK := Lib.hid (fun w h => containsInt_any D _ d x.kept z w rfl h hkl)
          cases p : hasB x.kept z with
          | false =>
            rw [p] at CK
            have HN1 : Hid (atP x (k + 1) = (S ++ ((⟨#[32]⟩ : ByteArray) ++ Tz))) := Lib.hid (by rw [HST.out, ← HSK.out, hTz, atStep, if_neg (by rw [p]; simp)]; simp only [ByteArray.append_assoc])
            clear p hTz
            go_wp2_with fail
            refine (Cz.out _ (HBX.out _ hbr)).mono ?_
            rintro e w4 ⟨rfl, b4⟩
            have hb4 := hbr.trans (b4.mono (by omega))
            have HB4 := Lib.hid hb4
            have d0 := (b4.cell (p := ⟨g, og + k, none⟩) hg).trans c0
            have hg4 : g < w4.heap.size := Nat.lt_of_lt_of_le hg b4.size
            clear y0 y1 y2 y3 y4 y5 hy c0 b4 hg
            have y0 := (HY.out _ hb4).cell 0 _ rfl
            have y1 := (HY.out _ hb4).cell 1 _ rfl
            have y2 := (HY.out _ hb4).cell 2 _ rfl
            have y3 := (HY.out _ hb4).cell 3 _ rfl
            have y4 := (HY.out _ hb4).cell 4 _ rfl
            have y5 := (HY.out _ hb4).cell 5 _ rfl
            have hy := (HY.out _ hb4).lt
            have HDK := Lib.hid (HD.out.below (HBX.out _ hb4))
            go_wp2_with fail
            refine (CK.out _ HDK.out).mono ?_
            rintro e w5 ⟨rfl, rfl⟩
            go_wp2
            go_roundw
            case rel => exact ⟨k + 1, by omega, by go_num, by rw [HN1.out], HB4.out⟩
            case measure => simp [intOf]; omega
          | true =>
            rw [p] at CK
            have HN1 : Hid (atP x (k + 1) = ((S ++ ((⟨#[32]⟩ : ByteArray) ++ Tz)) ++ (⟨#[42]⟩ : ByteArray))) := Lib.hid (by rw [HST.out, ← HSK.out, hTz, atStep, if_pos (by rw [p])]; simp only [ByteArray.append_assoc])
            clear p hTz
            go_wp2_with fail
            refine (Cz.out _ (HBX.out _ hbr)).mono ?_
            rintro e w4 ⟨rfl, b4⟩
            have hb4 := hbr.trans (b4.mono (by omega))
            have HB4 := Lib.hid hb4
            have d0 := (b4.cell (p := ⟨g, og + k, none⟩) hg).trans c0
            have hg4 : g < w4.heap.size := Nat.lt_of_lt_of_le hg b4.size
            clear y0 y1 y2 y3 y4 y5 hy c0 b4 hg
            have y0 := (HY.out _ hb4).cell 0 _ rfl
            have y1 := (HY.out _ hb4).cell 1 _ rfl
            have y2 := (HY.out _ hb4).cell 2 _ rfl
            have y3 := (HY.out _ hb4).cell 3 _ rfl
            have y4 := (HY.out _ hb4).cell 4 _ rfl
            have y5 := (HY.out _ hb4).cell 5 _ rfl
            have hy := (HY.out _ hb4).lt
            have HDK := Lib.hid (HD.out.below (HBX.out _ hb4))
            go_wp2_with fail
            refine (CK.out _ HDK.out).mono ?_
            rintro e w5 ⟨rfl, rfl⟩
            go_wp2
            go_roundw
            case rel => exact ⟨k + 1, by omega, by go_num, by rw [HN1.out], HB4.out⟩
            case measure => simp [intOf]; omega
        · have hd : decide (k < x.items.length) = false := by simpa using hlt
          have HKE := Lib.hid (show k = x.items.length by omega)
          go_wp2
          go_ret2
          exact ⟨by rw [HV.out, ← HKE.out, ← HSK.out]; rfl, HBX.out _ HBR.out⟩

end Go.Proofs.YtehohkdipfphmaaDoor
