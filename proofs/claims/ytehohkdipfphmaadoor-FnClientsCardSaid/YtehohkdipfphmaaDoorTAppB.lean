/- ApprovalText: the reference's and the program's. -/
import Derived.Test.YtehohkdipfphmaaDoorAppL
import Derived.Test.YtehohkdipfphmaaDoorAppN
import Derived.Test.YtehohkdipfphmaaDoorList
import Derived.Test.YtehohkdipfphmaaDoorDNum
namespace Go.Proofs.YtehohkdipfphmaaDoor
set_option linter.unusedVariables false
set_option linter.unusedSimpArgs false
open Go.RowKit
def numI (z : Int) : ByteArray := numT z.toNat
theorem numI_size {z : Int} (h : z ≤ 1000000000000) : (numI z).size ≤ 13 := numT_size (by omega)
theorem l1Num_int (z : Int) (h0 : 0 ≤ z) (h : z ≤ 1000000000000) (w : World) : Calls Tryd.prog 50 #[.int .i64 z] w (Ret (.string (numI z)) w) := by
  have := l1Num_any z.toNat w (by omega)
  rw [Int.toNat_of_nonneg h0] at this
  exact this
theorem itoa_int (z : Int) (h0 : 0 ≤ z) (h : z ≤ 1000000000000) (w : World) (ht : Lib.TabIs Tryd.prog w "internal/strconv.uint64pow10" .u64 Lib.pow10Tab) : Calls Tryd.prog 48 #[.int .i64 z] w (Ret (.string (numI z)) w) := by
  have := itoa_any z.toNat (by omega) w ht
  rw [Int.toNat_of_nonneg h0] at this
  exact this
def atStep (x : AR) (s : ByteArray) (z : Int) : ByteArray := if hasB x.kept z = true then ((s ++ (⟨#[32]⟩ : ByteArray)) ++ numI z) ++ (⟨#[42]⟩ : ByteArray) else (s ++ (⟨#[32]⟩ : ByteArray)) ++ numI z
def atH (x : AR) : ByteArray := (((((⟨#[97]⟩ : ByteArray) ++ numI x.id) ++ (⟨#[32]⟩ : ByteArray)) ++ x.client) ++ (⟨#[32]⟩ : ByteArray)) ++ numI x.sent
def atB (x : AR) : ByteArray := (if x.back = -1 then atH x else (atH x ++ (⟨#[45]⟩ : ByteArray)) ++ numI x.back) ++ (⟨#[58]⟩ : ByteArray)
def atP (x : AR) (k : Nat) : ByteArray := (x.items.take k).foldl (atStep x) (atB x)
noncomputable def atV (x : AR) : ByteArray := if oneA x = true then atP x x.items.length else ⟨#[]⟩
theorem atP_step {x : AR} {k : Nat} {z : Int} (h : x.items[k]? = some z) : atP x (k + 1) = atStep x (atP x k) z := by simp [atP, List.take_add_one, h]
theorem one_more {x : AR} (h : oneA x = true) : (1 ≤ x.id ∧ x.id ≤ 99) ∧ x.client.size ≤ 10 ∧ x.items.length ≤ 8 ∧ ∀ (k : Nat) (z : Int), x.items[k]? = some z → 1 ≤ z ∧ z ≤ 999 := by
  rw [oneA_impl] at h
  simp only [Bool.and_eq_true, inR_true] at h
  obtain ⟨h1, h2, -, h4, -, -, h7, -⟩ := h
  exact ⟨h1, (wordB_len h2).2, by omega, fun k z hz => inR_true.1 (inAll_at h7 hz)⟩
theorem atB_size {x : AR} (h : oneA x = true) : (atB x).size ≤ 60 := by
  obtain ⟨h1, h2, -, -⟩ := one_more h
  obtain ⟨h5, h6⟩ := one_bd h
  have a := numI_size (z := x.id) (by omega)
  have b := numI_size (z := x.sent) (by omega)
  have c := numI_size (z := x.back) (by omega)
  have l1 : ((⟨#[97]⟩ : ByteArray)).size = 1 := rfl
  have l2 : ((⟨#[32]⟩ : ByteArray)).size = 1 := rfl
  have l3 : ((⟨#[45]⟩ : ByteArray)).size = 1 := rfl
  have l4 : ((⟨#[58]⟩ : ByteArray)).size = 1 := rfl
  unfold atB
  split <;> simp only [atH, ByteArray.size_append] <;> omega
theorem atP_size {x : AR} (h : oneA x = true) : ∀ k, k ≤ x.items.length → (atP x k).size ≤ 60 + 16 * k
  | 0, _ => by simpa [atP] using atB_size h
  | k + 1, hk => by
    have ih := atP_size h k (by omega)
    obtain ⟨z, hz⟩ : ∃ z, x.items[k]? = some z := ⟨x.items[k], List.getElem?_eq_getElem (by omega)⟩
    have hb := (one_more h).2.2.2 k z hz
    have a := numI_size (z := z) (by omega)
    have l1 : ((⟨#[32]⟩ : ByteArray)).size = 1 := rfl
    have l2 : ((⟨#[42]⟩ : ByteArray)).size = 1 := rfl
    rw [atP_step hz, atStep]
    split <;> simp only [ByteArray.size_append] <;> omega
theorem good_one (x : AR) : goodA [x] = oneA x := by
  cases h : oneA x with
  | false => exact goodA_no (k := 0) (by simp) (okAt_no1 rfl h)
  | true => 
    have : okAt [x] 0 = true := okAt_yes (xs := [x]) (k := 0) rfl h (.inl rfl) (fun j y hj => by omega)
    rw [goodA_end (fun j hj => by obtain rfl : j = 0 := by simpa using hj
                                  exact this)]; simp

set_option maxRecDepth 20000 in
set_option maxHeartbeats 4000000 in
theorem specApprovalText_any (x : AR) (B : Option Addr) (c : Nat) (D : Option Addr) (d : Nat) (w : World) (hB : Rd w B (cells1 x.items)) (hD : Rd w D (cells1 x.kept)) (hs : smA x) :
    Calls Tryd.prog 22 #[.agg #[.int .i64 x.id, .string x.client, .int .i64 x.sent, .slice B x.items.length c, .slice D x.kept.length d, .int .i64 x.back]] w (Ret (.tuple #[.string (atV x), .bool (oneA x)]) w) := by
  have C0 := Lib.hid (fun w h h2 => l28One_any x B c D d w h h2 hs)
  have HB := Lib.hid hB
  have HD := Lib.hid hD
  have HSM := Lib.hid hs
  have HY := Lib.hid (fun W (h : Below (w.heap.size + 1) (w.alloc (.cells #[.int .i64 x.id, .string x.client, .int .i64 x.sent, .slice B x.items.length c, .slice D x.kept.length d, .int .i64 x.back] 34)) W) => (Blk.new w [.int .i64 x.id, .string x.client, .int .i64 x.sent, .slice B x.items.length c, .slice D x.kept.length d, .int .i64 x.back] 34).below h (by omega))
  have HBX := Lib.hid (fun W (h : Below (w.heap.size + 1) (w.alloc (.cells #[.int .i64 x.id, .string x.client, .int .i64 x.sent, .slice B x.items.length c, .slice D x.kept.length d, .int .i64 x.back] 34)) W) => Below.trans ((Below.refl w.heap.size w).alloc (Nat.le_refl _) (.cells #[.int .i64 x.id, .string x.client, .int .i64 x.sent, .slice B x.items.length c, .slice D x.kept.length d, .int .i64 x.back] 34)) (h.mono (Nat.le_succ _)))
  clear hB hD hs
  cases hv : oneA x with
  | false =>
    rw [hv] at C0
    have HV := Lib.hid (show atV x = ⟨#[]⟩ by rw [atV, hv]; rfl)
    clear hv
    go_enter Tryd.func22, Tryd.ntmps22
    go_wp2_with fail
    refine (C0.out _ (HB.out.alloc _) (HD.out.alloc _)).mono ?_
    rintro e w1 ⟨rfl, b1⟩
    have B1 : Below (w.heap.size + 1) (w.alloc (.cells #[.int .i64 x.id, .string x.client, .int .i64 x.sent, .slice B x.items.length c, .slice D x.kept.length d, .int .i64 x.back] 34)) w1 := Below.trans (Below.refl _ _) (b1.mono (by simp))
    have HB1 := Lib.hid B1
    clear b1 B1
    go_wp2
    go_ret2
    exact ⟨by first | (rw [HV.out]; done) | (rw [HV.out]; rfl), HBX.out _ HB1.out⟩
  | true =>
    rw [hv] at C0
    have HV := Lib.hid (show atV x = atP x x.items.length by rw [atV, hv]; rfl)
    obtain ⟨⟨ha0, ha1⟩, hcl, hil, hzb⟩ := one_more hv
    obtain ⟨⟨hs0, hs1⟩, hbk⟩ := one_bd hv
    have HZB := Lib.hid hzb
    have HPS := Lib.hid (atP_size hv)
    have HBS := Lib.hid (atB_size hv)
    have hkl : x.kept.length ≤ 1048576 := HSM.out.2.2
    clear hv hzb
    obtain ⟨Ta, hTa⟩ : ∃ T, T = numI x.id := ⟨_, rfl⟩
    have za : Ta.size ≤ 13 := by rw [hTa]; exact numI_size (by omega)
    have Ca := Lib.hid (fun w => l1Num_int x.id (by omega) (by omega) w)
    rw [← hTa] at Ca
    obtain ⟨Ts, hTs⟩ : ∃ T, T = numI x.sent := ⟨_, rfl⟩
    have zs : Ts.size ≤ 13 := by rw [hTs]; exact numI_size (by omega)
    have Cs := Lib.hid (fun w => l1Num_int x.sent (by omega) (by omega) w)
    rw [← hTs] at Cs
    obtain ⟨S1, hS1⟩ : ∃ S, S = atH x := ⟨_, rfl⟩
    have HS1 : Hid ((((((⟨#[97]⟩ : ByteArray) ++ Ta) ++ (⟨#[32]⟩ : ByteArray)) ++ x.client) ++ (⟨#[32]⟩ : ByteArray)) ++ Ts = S1) := Lib.hid (by rw [hS1, atH, hTa, hTs])
    have hS1z : S1.size ≤ 60 := by rw [← HS1.out]; have l1 : ((⟨#[97]⟩ : ByteArray)).size = 1 := rfl; have l2 : ((⟨#[32]⟩ : ByteArray)).size = 1 := rfl; simp only [ByteArray.size_append]; omega
    have HSH := Lib.hid hS1
    clear hS1 hTa hTs
    go_enter Tryd.func22, Tryd.ntmps22
    go_wp2_with fail
    refine (C0.out _ (HB.out.alloc _) (HD.out.alloc _)).mono ?_
    rintro e w1 ⟨rfl, b1⟩
    have B1 : Below (w.heap.size + 1) (w.alloc (.cells #[.int .i64 x.id, .string x.client, .int .i64 x.sent, .slice B x.items.length c, .slice D x.kept.length d, .int .i64 x.back] 34)) w1 := Below.trans (Below.refl _ _) (b1.mono (by simp))
    have HB1 := Lib.hid B1
    clear b1 B1
    have y0 := (HY.out _ HB1.out).cell 0 _ rfl
    have y1 := (HY.out _ HB1.out).cell 1 _ rfl
    have y2 := (HY.out _ HB1.out).cell 2 _ rfl
    have y3 := (HY.out _ HB1.out).cell 3 _ rfl
    have y4 := (HY.out _ HB1.out).cell 4 _ rfl
    have y5 := (HY.out _ HB1.out).cell 5 _ rfl
    have hy := (HY.out _ HB1.out).lt
    go_wp2_with fail
    refine wp_region_lat w1.heap.size (by kernel_rfl) (by kernel_rfl) ?_
    have LC := fun (u : Lat w1.heap.size w1) => u.cell
    repeat (go_big_quiet_step ((first | (go_at_call 50; (with_reducible exact lat_call _ (Nat.le_refl _) (Ca.out _))) | (go_at_call 50; (with_reducible exact lat_call _ (Nat.le_refl _) (Cs.out _))))))
    refine wpQuiet_nil ?_
    intro w2 hw2
    clear LC
    have HB2 := Lib.hid (HB1.out.trans (hw2.mono (by omega)))
    clear hw2 y0 y1 y2 y3 y4 y5 hy
    rw [HS1.out]
    have y0 := (HY.out _ HB2.out).cell 0 _ rfl
    have y1 := (HY.out _ HB2.out).cell 1 _ rfl
    have y2 := (HY.out _ HB2.out).cell 2 _ rfl
    have y3 := (HY.out _ HB2.out).cell 3 _ rfl
    have y4 := (HY.out _ HB2.out).cell 4 _ rfl
    have y5 := (HY.out _ HB2.out).cell 5 _ rfl
    have hy := (HY.out _ HB2.out).lt
    by_cases hbk1 : x.back = -1
    · have f1 : ((x.back != -1) = false) := by simp [hbk1]
      have HS3 : Hid (atP x 0 = S1 ++ (⟨#[58]⟩ : ByteArray)) := Lib.hid (by rw [atP, List.take_zero, List.foldl_nil, atB, if_pos hbk1, HSH.out])
      clear hbk1 hbk
      go_wp2_with fail
      go_loopw [4, 5] (fun s i wr => ∃ k : Nat, k ≤ x.items.length ∧ i = .int .i64 k ∧ s = .string (atP x k) ∧ Below (w.heap.size + 1) (w.alloc (.cells #[.int .i64 x.id, .string x.client, .int .i64 x.sent, .slice B x.items.length c, .slice D x.kept.length d, .int .i64 x.back] 34)) wr) (fun _ i _ => x.items.length - (intOf i).toNat)
      case atStart => exact ⟨0, Nat.zero_le _, rfl, by rw [HS3.out], HB2.out⟩
      case round =>
        clear y0 y1 y2 y3 y4 y5 hy
        obtain ⟨k, hk, rfl, rfl, hbr⟩ := hrel
        have HBR := Lib.hid hbr
        have y0 := (HY.out _ hbr).cell 0 _ rfl
        have y1 := (HY.out _ hbr).cell 1 _ rfl
        have y2 := (HY.out _ hbr).cell 2 _ rfl
        have y3 := (HY.out _ hbr).cell 3 _ rfl
        have y4 := (HY.out _ hbr).cell 4 _ rfl
        have y5 := (HY.out _ hbr).cell 5 _ rfl
        have hy := (HY.out _ hbr).lt
        obtain ⟨S, hS⟩ : ∃ S, S = atP x k := ⟨_, rfl⟩
        have hSz : S.size ≤ 200 := by have := HPS.out k hk; rw [← hS] at this; omega
        rw [← hS]
        have HSK := Lib.hid hS
        clear hS
        by_cases hlt : k < x.items.length
        · obtain ⟨z, hzk⟩ : ∃ z, x.items[k]? = some z := ⟨x.items[k], List.getElem?_eq_getElem hlt⟩
          obtain ⟨hz0, hz1x⟩ := HZB.out k z hzk
          have HST := Lib.hid (atP_step hzk)
          obtain ⟨g, og, rfl, hg, c0⟩ := (HB.out.below (HBX.out _ hbr)).at1 hzk
          clear hzk
          obtain ⟨Tz, hTz⟩ : ∃ T, T = numI z := ⟨_, rfl⟩
          have zz : Tz.size ≤ 13 := by rw [hTz]; exact numI_size (by omega)
          have Cz := Lib.hid (fun w => l1Num_int z (by omega) (by omega) w)
          rw [← hTz] at Cz
          have CK := Lib.hid (fun w h => l1Has_any D _ d x.kept z w rfl h hkl)
          cases p : hasB x.kept z with
          | false =>
            rw [p] at CK
            have HN1 : Hid (atP x (k + 1) = ((S ++ (⟨#[32]⟩ : ByteArray)) ++ Tz)) := Lib.hid (by rw [HST.out, ← HSK.out, hTz, atStep, if_neg (by rw [p]; simp)])
            clear p hTz
            go_wp2_with fail
            refine (Cz.out _).mono ?_
            rintro e w4 ⟨rfl, b4⟩
            have hb4 := hbr.trans (b4.mono (by omega))
            have HB4 := Lib.hid hb4
            have d0 := (b4.cell (p := ⟨g, og + k, none⟩) hg).trans c0
            have hg4 : g < w4.heap.size := Nat.lt_of_lt_of_le hg b4.size
            clear y0 y1 y2 y3 y4 y5 hy c0 b4 hg
            have y0 := (HY.out _ hb4).cell 0 _ rfl
            have y1 := (HY.out _ hb4).cell 1 _ rfl
            have y2 := (HY.out _ hb4).cell 2 _ rfl
            have y3 := (HY.out _ hb4).cell 3 _ rfl
            have y4 := (HY.out _ hb4).cell 4 _ rfl
            have y5 := (HY.out _ hb4).cell 5 _ rfl
            have hy := (HY.out _ hb4).lt
            have HDK := Lib.hid (HD.out.below (HBX.out _ hb4))
            go_wp2_with fail
            refine wp_region_lat w4.heap.size (by kernel_rfl) (by kernel_rfl) ?_
            have LC := fun (u : Lat w4.heap.size w4) => u.cell
            repeat (go_big_quiet_step ((go_at_call 35; (with_reducible exact lat_same _ (CK.out _ (HDK.out.below (Lat.below _)))))))
            refine wpQuiet_nil ?_
            intro w5 hw5
            clear LC
            have HB5 := Lib.hid (HB4.out.trans (hw5.mono (by omega)))
            go_wp2
            go_roundw
            case rel => exact ⟨k + 1, by omega, by go_num, by rw [HN1.out], HB5.out⟩
            case measure => simp [intOf]; omega
          | true =>
            rw [p] at CK
            have HN1 : Hid (atP x (k + 1) = (((S ++ (⟨#[32]⟩ : ByteArray)) ++ Tz) ++ (⟨#[42]⟩ : ByteArray))) := Lib.hid (by rw [HST.out, ← HSK.out, hTz, atStep, if_pos (by rw [p])])
            clear p hTz
            go_wp2_with fail
            refine (Cz.out _).mono ?_
            rintro e w4 ⟨rfl, b4⟩
            have hb4 := hbr.trans (b4.mono (by omega))
            have HB4 := Lib.hid hb4
            have d0 := (b4.cell (p := ⟨g, og + k, none⟩) hg).trans c0
            have hg4 : g < w4.heap.size := Nat.lt_of_lt_of_le hg b4.size
            clear y0 y1 y2 y3 y4 y5 hy c0 b4 hg
            have y0 := (HY.out _ hb4).cell 0 _ rfl
            have y1 := (HY.out _ hb4).cell 1 _ rfl
            have y2 := (HY.out _ hb4).cell 2 _ rfl
            have y3 := (HY.out _ hb4).cell 3 _ rfl
            have y4 := (HY.out _ hb4).cell 4 _ rfl
            have y5 := (HY.out _ hb4).cell 5 _ rfl
            have hy := (HY.out _ hb4).lt
            have HDK := Lib.hid (HD.out.below (HBX.out _ hb4))
            go_wp2_with fail
            refine wp_region_lat w4.heap.size (by kernel_rfl) (by kernel_rfl) ?_
            have LC := fun (u : Lat w4.heap.size w4) => u.cell
            repeat (go_big_quiet_step ((go_at_call 35; (with_reducible exact lat_same _ (CK.out _ (HDK.out.below (Lat.below _)))))))
            refine wpQuiet_nil ?_
            intro w5 hw5
            clear LC
            have HB5 := Lib.hid (HB4.out.trans (hw5.mono (by omega)))
            go_wp2
            go_roundw
            case rel => exact ⟨k + 1, by omega, by go_num, by rw [HN1.out], HB5.out⟩
            case measure => simp [intOf]; omega
        · have hd : decide (k < x.items.length) = false := by simpa using hlt
          have HKE := Lib.hid (show k = x.items.length by omega)
          go_wp2
          go_ret2
          exact ⟨by rw [HV.out, ← HKE.out, ← HSK.out]; rfl, HBX.out _ HBR.out⟩
    · have f1 : ((x.back != -1) = true) := by simp; omega
      obtain ⟨Tb, hTb⟩ : ∃ T, T = numI x.back := ⟨_, rfl⟩
      have zb : Tb.size ≤ 13 := by rw [hTb]; exact numI_size (by omega)
      have Cb := Lib.hid (fun w => l1Num_int x.back (by omega) (by omega) w)
      rw [← hTb] at Cb
      have HS3 : Hid (atP x 0 = ((S1 ++ (⟨#[45]⟩ : ByteArray)) ++ Tb) ++ (⟨#[58]⟩ : ByteArray)) := Lib.hid (by rw [atP, List.take_zero, List.foldl_nil, atB, if_neg hbk1, HSH.out, hTb])
      clear hbk1 hTb
      go_wp2_with fail
      refine (Cb.out _).mono ?_
      rintro e w3 ⟨rfl, b3⟩
      have HB3 := Lib.hid (HB2.out.trans (b3.mono (by omega)))
      clear b3 y0 y1 y2 y3 y4 y5 hy hbk
      have y0 := (HY.out _ HB3.out).cell 0 _ rfl
      have y1 := (HY.out _ HB3.out).cell 1 _ rfl
      have y2 := (HY.out _ HB3.out).cell 2 _ rfl
      have y3 := (HY.out _ HB3.out).cell 3 _ rfl
      have y4 := (HY.out _ HB3.out).cell 4 _ rfl
      have y5 := (HY.out _ HB3.out).cell 5 _ rfl
      have hy := (HY.out _ HB3.out).lt
      go_wp2_with fail
      go_loopw [4, 5] (fun s i wr => ∃ k : Nat, k ≤ x.items.length ∧ i = .int .i64 k ∧ s = .string (atP x k) ∧ Below (w.heap.size + 1) (w.alloc (.cells #[.int .i64 x.id, .string x.client, .int .i64 x.sent, .slice B x.items.length c, .slice D x.kept.length d, .int .i64 x.back] 34)) wr) (fun _ i _ => x.items.length - (intOf i).toNat)
      case atStart => exact ⟨0, Nat.zero_le _, rfl, by rw [HS3.out], HB3.out⟩
      case round =>
        clear y0 y1 y2 y3 y4 y5 hy
        obtain ⟨k, hk, rfl, rfl, hbr⟩ := hrel
        have HBR := Lib.hid hbr
        have y0 := (HY.out _ hbr).cell 0 _ rfl
        have y1 := (HY.out _ hbr).cell 1 _ rfl
        have y2 := (HY.out _ hbr).cell 2 _ rfl
        have y3 := (HY.out _ hbr).cell 3 _ rfl
        have y4 := (HY.out _ hbr).cell 4 _ rfl
        have y5 := (HY.out _ hbr).cell 5 _ rfl
        have hy := (HY.out _ hbr).lt
        obtain ⟨S, hS⟩ : ∃ S, S = atP x k := ⟨_, rfl⟩
        have hSz : S.size ≤ 200 := by have := HPS.out k hk; rw [← hS] at this; omega
        rw [← hS]
        have HSK := Lib.hid hS
        clear hS
        by_cases hlt : k < x.items.length
        · obtain ⟨z, hzk⟩ : ∃ z, x.items[k]? = some z := ⟨x.items[k], List.getElem?_eq_getElem hlt⟩
          obtain ⟨hz0, hz1x⟩ := HZB.out k z hzk
          have HST := Lib.hid (atP_step hzk)
          obtain ⟨g, og, rfl, hg, c0⟩ := (HB.out.below (HBX.out _ hbr)).at1 hzk
          clear hzk
          obtain ⟨Tz, hTz⟩ : ∃ T, T = numI z := ⟨_, rfl⟩
          have zz : Tz.size ≤ 13 := by rw [hTz]; exact numI_size (by omega)
          have Cz := Lib.hid (fun w => l1Num_int z (by omega) (by omega) w)
          rw [← hTz] at Cz
          have CK := Lib.hid (fun w h => l1Has_any D _ d x.kept z w rfl h hkl)
          cases p : hasB x.kept z with
          | false =>
            rw [p] at CK
            have HN1 : Hid (atP x (k + 1) = ((S ++ (⟨#[32]⟩ : ByteArray)) ++ Tz)) := Lib.hid (by rw [HST.out, ← HSK.out, hTz, atStep, if_neg (by rw [p]; simp)])
            clear p hTz
            go_wp2_with fail
            refine (Cz.out _).mono ?_
            rintro e w4 ⟨rfl, b4⟩
            have hb4 := hbr.trans (b4.mono (by omega))
            have HB4 := Lib.hid hb4
            have d0 := (b4.cell (p := ⟨g, og + k, none⟩) hg).trans c0
            have hg4 : g < w4.heap.size := Nat.lt_of_lt_of_le hg b4.size
            clear y0 y1 y2 y3 y4 y5 hy c0 b4 hg
            have y0 := (HY.out _ hb4).cell 0 _ rfl
            have y1 := (HY.out _ hb4).cell 1 _ rfl
            have y2 := (HY.out _ hb4).cell 2 _ rfl
            have y3 := (HY.out _ hb4).cell 3 _ rfl
            have y4 := (HY.out _ hb4).cell 4 _ rfl
            have y5 := (HY.out _ hb4).cell 5 _ rfl
            have hy := (HY.out _ hb4).lt
            have HDK := Lib.hid (HD.out.below (HBX.out _ hb4))
            go_wp2_with fail
            refine wp_region_lat w4.heap.size (by kernel_rfl) (by kernel_rfl) ?_
            have LC := fun (u : Lat w4.heap.size w4) => u.cell
            repeat (go_big_quiet_step ((go_at_call 35; (with_reducible exact lat_same _ (CK.out _ (HDK.out.below (Lat.below _)))))))
            refine wpQuiet_nil ?_
            intro w5 hw5
            clear LC
            have HB5 := Lib.hid (HB4.out.trans (hw5.mono (by omega)))
            go_wp2
            go_roundw
            case rel => exact ⟨k + 1, by omega, by go_num, by rw [HN1.out], HB5.out⟩
            case measure => simp [intOf]; omega
          | true =>
            rw [p] at CK
            have HN1 : Hid (atP x (k + 1) = (((S ++ (⟨#[32]⟩ : ByteArray)) ++ Tz) ++ (⟨#[42]⟩ : ByteArray))) := Lib.hid (by rw [HST.out, ← HSK.out, hTz, atStep, if_pos (by rw [p])])
            clear p hTz
            go_wp2_with fail
            refine (Cz.out _).mono ?_
            rintro e w4 ⟨rfl, b4⟩
            have hb4 := hbr.trans (b4.mono (by omega))
            have HB4 := Lib.hid hb4
            have d0 := (b4.cell (p := ⟨g, og + k, none⟩) hg).trans c0
            have hg4 : g < w4.heap.size := Nat.lt_of_lt_of_le hg b4.size
            clear y0 y1 y2 y3 y4 y5 hy c0 b4 hg
            have y0 := (HY.out _ hb4).cell 0 _ rfl
            have y1 := (HY.out _ hb4).cell 1 _ rfl
            have y2 := (HY.out _ hb4).cell 2 _ rfl
            have y3 := (HY.out _ hb4).cell 3 _ rfl
            have y4 := (HY.out _ hb4).cell 4 _ rfl
            have y5 := (HY.out _ hb4).cell 5 _ rfl
            have hy := (HY.out _ hb4).lt
            have HDK := Lib.hid (HD.out.below (HBX.out _ hb4))
            go_wp2_with fail
            refine wp_region_lat w4.heap.size (by kernel_rfl) (by kernel_rfl) ?_
            have LC := fun (u : Lat w4.heap.size w4) => u.cell
            repeat (go_big_quiet_step ((go_at_call 35; (with_reducible exact lat_same _ (CK.out _ (HDK.out.below (Lat.below _)))))))
            refine wpQuiet_nil ?_
            intro w5 hw5
            clear LC
            have HB5 := Lib.hid (HB4.out.trans (hw5.mono (by omega)))
            go_wp2
            go_roundw
            case rel => exact ⟨k + 1, by omega, by go_num, by rw [HN1.out], HB5.out⟩
            case measure => simp [intOf]; omega
        · have hd : decide (k < x.items.length) = false := by simpa using hlt
          have HKE := Lib.hid (show k = x.items.length by omega)
          go_wp2
          go_ret2
          exact ⟨by rw [HV.out, ← HKE.out, ← HSK.out]; rfl, HBX.out _ HBR.out⟩

end Go.Proofs.YtehohkdipfphmaaDoor
