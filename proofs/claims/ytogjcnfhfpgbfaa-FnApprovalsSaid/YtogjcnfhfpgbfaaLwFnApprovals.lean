/- The law FnApprovals returns true for every input: what the program and the reference answer on approvals is the same; sent items are out and with their client, and of those taken back the kept ones are bought and the others at home. No conditions. -/
import Derived.Test.YtogjcnfhfpgbfaaDrA5
import Derived.Test.YtogjcnfhfpgbfaaDrA6
import Derived.Test.YtogjcnfhfpgbfaaDrA7
import Derived.Test.YtogjcnfhfpgbfaaApP
import Derived.Test.YtogjcnfhfpgbfaaAppM
namespace Go.Proofs.Ytogjcnfhfpgbfaa.lwFnApprovals
set_option linter.unusedSimpArgs false
open Go.ChangeShapes Go.WideShapes Go.ChangeAt Go.RowKit
set_option linter.unusedVariables false

set_option maxRecDepth 20000 in
set_option maxHeartbeats 16000000 in
theorem walk (B : Option Addr) (n c : Nat) (zs : List Int) (w : World) (hn : zs.length = n) (hB : Rd w B (cellsU zs)) (hm : n ≤ maxLen) (hb : ∀ z ∈ zs, 0 ≤ z ∧ z ≤ 255) :
    Calls Try.prog 3 #[.slice B n c] w (Ret (.bool true) w) := by
  have CB := Lib.hid (fun w => rBig_any B n c w hm)
  by_cases hbig : (65536 : Int) < n
  · rw [show decide ((65536 : Int) < n) = true by simp; omega] at CB
    clear hbig hn
    go_enter Try.func3, Try.ntmps3
    go_wp2_with fail
    refine (CB.out _).mono ?_
    rintro e w1 ⟨rfl, rfl⟩
    go_wp2
    go_ret
    exact ⟨rfl, Below.refl _ _⟩
  rw [show decide ((65536 : Int) < n) = false by simp; omega] at CB
  have HY : Hid (Bytes w B zs) := Lib.hid ⟨hB, hb, by omega⟩
  have HN := Lib.hid hn
  clear hbig hn hB hm hb
  have D1 := Lib.hid (fun w h => drawSendItems_any B n c zs w HN.out h)
  have D2 := Lib.hid (fun w h => drawTakeBack_any B n c zs w HN.out h)
  have D3 := Lib.hid (fun w h => drawWhereIs_any B n c zs w HN.out h)
  have D4 := Lib.hid (fun w h => drawItemsOut_any B n c zs w HN.out h)
  go_enter Try.func3, Try.ntmps3
  go_wp2_with fail
  refine (CB.out _).mono ?_
  rintro e w0 ⟨rfl, rfl⟩
  have HB0 := Lib.hid (Below.refl w.heap.size w)
  go_wp2_with fail
  refine (D1.out _ (HY.out)).mono ?_
  rintro e w1 ⟨v1, xs, cl, d, A6, c6, ks, rfl, hcl, hl, hr, hkl, hcp, b⟩
  have Bw1 := Lib.hid (HB0.out.trans (b.mono HB0.out.size))
  have HK := Lib.hid hr
  clear hr hcp
  obtain ⟨A1, c1, rfl, r1, hp1, hq1⟩ := hl.form
  have hl1 := hl.len
  have hw1 := Lib.hid hl.ds
  have HR1 := Lib.hid r1
  clear r1 hl b
  have hW1 : Hid (∀ x ∈ xs, smA x) := Lib.hid (fun x hx => (hw1.out x hx).sm)
  have HD1 := hw1
  clear hw1
  have hC1 := Lib.hid (And.intro hp1 hq1)
  clear hp1 hq1
  obtain ⟨ok, h_ok⟩ : ∃ ok, ok = siB xs cl d ks := ⟨_, rfl⟩
  have HOK := Lib.hid h_ok
  clear h_ok
  obtain ⟨S, h_S⟩ : ∃ S, S = siV xs cl d ks := ⟨_, rfl⟩
  have HS := Lib.hid h_S
  clear h_S
  obtain ⟨id, h_id⟩ : ∃ id, id = siN xs cl d ks := ⟨_, rfl⟩
  have HID := Lib.hid h_id
  clear h_id
  have HSM := Lib.hid (si_small xs cl d ks)
  rw [← HS.out] at HSM
  have hSn := HSM.out.1
  have hWS := Lib.hid HSM.out.2.1
  have hidd : (id != id) = false := by simp
  have hcl2 : (cl.size : Int) ≤ 1048576 := by omega
  go_wp2_with fail
  refine (implSendItems_any A1 xs.length c1 xs cl d A6 ks.length c6 ks _ rfl HR1.out (by omega) hW1.out hC1.out hcl2 rfl HK.out (by omega)).mono ?_
  rintro e w2 ⟨v2, vs2, rfl, o, b⟩
  rw [← HOK.out, ← HID.out]
  rw [← HS.out] at o
  obtain ⟨A2, c2, rfl⟩ := own_form o.2.1
  have Bw2 := Lib.hid (Bw1.out.trans (b.mono Bw1.out.size))
  have HR1' := Lib.hid (HR1.out.below b)
  clear HR1
  have HR1 := HR1'
  clear HR1'
  have HK' := Lib.hid (HK.out.below b)
  clear HK
  have HK := HK'
  clear HK'
  have HR2 := Lib.hid o.rd2
  have hC2 := Lib.hid (own_capS o.2.1)
  clear o b
  go_wp2_with fail
  refine (specSendItems_any A1 xs.length c1 xs cl d A6 ks.length c6 ks _ rfl HR1.out (by omega) hW1.out hC1.out hcl2 rfl HK.out (by omega)).mono ?_
  rintro e w3 ⟨v3, vs3, rfl, o, b⟩
  rw [← HOK.out, ← HID.out]
  rw [← HS.out] at o
  obtain ⟨A3, c3, rfl⟩ := own_form o.2.1
  have Bw3 := Lib.hid (Bw2.out.trans (b.mono Bw2.out.size))
  have HR1' := Lib.hid (HR1.out.below b)
  clear HR1
  have HR1 := HR1'
  clear HR1'
  have HK' := Lib.hid (HK.out.below b)
  clear HK
  have HK := HK'
  clear HK'
  have HR2' := Lib.hid (HR2.out.below b)
  clear HR2
  have HR2 := HR2'
  clear HR2'
  have HR3 := Lib.hid o.rd2
  have hC3 := Lib.hid (own_capS o.2.1)
  clear o b
  go_wp2_with fail
  refine (rApprovals_same _ _ _ _ _ S _ rfl HR2.out HR3.out hSn hWS.out).mono ?_
  rintro e w4 ⟨rfl, b⟩
  have Bw4 := Lib.hid (Bw3.out.trans (b.mono Bw3.out.size))
  have HR1' := Lib.hid (HR1.out.below b)
  clear HR1
  have HR1 := HR1'
  clear HR1'
  have HK' := Lib.hid (HK.out.below b)
  clear HK
  have HK := HK'
  clear HK'
  have HR2' := Lib.hid (HR2.out.below b)
  clear HR2
  have HR2 := HR2'
  clear HR2'
  clear b
  cases ok with
  | false =>
    as_aux_lemma =>
      go_wp2_with fail
      refine (D2.out _ (HY.out.below Bw4.out)).mono ?_
      rintro e w5 ⟨v5, us, x5, at5, A7, c7, ts, rfl, hl, hr, htl5, hcp, b⟩
      have Bw5 := Lib.hid (Bw4.out.trans (b.mono Bw4.out.size))
      have HR1' := Lib.hid (HR1.out.below b)
      clear HR1
      have HR1 := HR1'
      clear HR1'
      have HT := Lib.hid hr
      clear hr hcp
      obtain ⟨A5, c5, rfl, r5, hp5, hq5⟩ := hl.form
      have hl5 := hl.len
      have hw5 := Lib.hid hl.ds
      have HR5 := Lib.hid r5
      clear r5 hl b
      have hW5 : Hid (∀ x ∈ us, smA x) := Lib.hid (fun x hx => (hw5.out x hx).sm)
      have HD5 := hw5
      clear hw5
      have hC5 := Lib.hid (And.intro hp5 hq5)
      clear hp5 hq5
      obtain ⟨fine, h_fine⟩ : ∃ fine, fine = tbB us x5 at5 ts := ⟨_, rfl⟩
      have HFI := Lib.hid h_fine
      clear h_fine
      obtain ⟨R, h_R⟩ : ∃ R, R = tbV us x5 at5 ts := ⟨_, rfl⟩
      have HRV := Lib.hid h_R
      clear h_R
      have HRM := Lib.hid (tb_small us x5 at5 ts)
      rw [← HRV.out] at HRM
      have hRn := HRM.out.1
      have hWR := Lib.hid HRM.out.2.1
      go_wp2_with fail
      refine (implTakeBack_any A5 us.length c5 us x5 at5 A7 ts.length c7 ts _ rfl HR5.out (by omega) hW5.out hC5.out rfl HT.out (by omega)).mono ?_
      rintro e w6 ⟨v8, vs8, rfl, o, b⟩
      rw [← HFI.out]
      rw [← HRV.out] at o
      obtain ⟨A8, c8, rfl⟩ := own_form o.2.1
      have Bw6 := Lib.hid (Bw5.out.trans (b.mono Bw5.out.size))
      have HR1' := Lib.hid (HR1.out.below b)
      clear HR1
      have HR1 := HR1'
      clear HR1'
      have HR5' := Lib.hid (HR5.out.below b)
      clear HR5
      have HR5 := HR5'
      clear HR5'
      have HT' := Lib.hid (HT.out.below b)
      clear HT
      have HT := HT'
      clear HT'
      have HR8 := Lib.hid o.rd2
      have hC8 := Lib.hid (own_capS o.2.1)
      clear o b
      go_wp2_with fail
      refine (specTakeBack_any A5 us.length c5 us x5 at5 A7 ts.length c7 ts _ rfl HR5.out (by omega) hW5.out hC5.out rfl HT.out (by omega)).mono ?_
      rintro e w7 ⟨v9, vs9, rfl, o, b⟩
      rw [← HFI.out]
      rw [← HRV.out] at o
      obtain ⟨A9, c9, rfl⟩ := own_form o.2.1
      have Bw7 := Lib.hid (Bw6.out.trans (b.mono Bw6.out.size))
      have HR1' := Lib.hid (HR1.out.below b)
      clear HR1
      have HR1 := HR1'
      clear HR1'
      have HR5' := Lib.hid (HR5.out.below b)
      clear HR5
      have HR5 := HR5'
      clear HR5'
      have HT' := Lib.hid (HT.out.below b)
      clear HT
      have HT := HT'
      clear HT'
      have HR8' := Lib.hid (HR8.out.below b)
      clear HR8
      have HR8 := HR8'
      clear HR8'
      have HR9 := Lib.hid o.rd2
      have hC9 := Lib.hid (own_capS o.2.1)
      clear o b
      go_wp2_with fail
      refine (rApprovals_same _ _ _ _ _ R _ rfl HR8.out HR9.out hRn hWR.out).mono ?_
      rintro e w8 ⟨rfl, b⟩
      have Bw8 := Lib.hid (Bw7.out.trans (b.mono Bw7.out.size))
      have HR1' := Lib.hid (HR1.out.below b)
      clear HR1
      have HR1 := HR1'
      clear HR1'
      have HR5' := Lib.hid (HR5.out.below b)
      clear HR5
      have HR5 := HR5'
      clear HR5'
      have HT' := Lib.hid (HT.out.below b)
      clear HT
      have HT := HT'
      clear HT'
      have HR8' := Lib.hid (HR8.out.below b)
      clear HR8
      have HR8 := HR8'
      clear HR8'
      clear b
      cases fine with
      | false =>
        go_wp2_with fail
        go_loopw [28, 29, 30, 31, 32, 33] (fun i _ _ _ _ _ wr => ∃ t : Nat, i = .int .i64 t ∧ t ≤ us.length ∧ Below w8.heap.size w8 wr) (fun i _ _ _ _ _ _ => us.length - (intOf i).toNat)
        case atStart => exact ⟨0, rfl, by omega, Below.refl _ _⟩
        case round =>
          obtain ⟨wO, hwO⟩ : ∃ x, x = wr := ⟨wr, rfl⟩
          subst hwO
          obtain ⟨t, rfl, ht, hbw⟩ := hrel
          have HBW := Lib.hid hbw
          have hsw := hbw.size
          clear hbw
          by_cases htl : t < us.length
          · have htl' : (t : Int) < (us.length : Int) := by omega
            have BwO := Lib.hid (Bw8.out.trans (HBW.out.mono Bw8.out.size))
            have HR1' := Lib.hid (HR1.out.below HBW.out)
            clear HR1
            have HR1 := HR1'
            clear HR1'
            as_aux_lemma =>
              go_wp2_with fail
              refine (D3.out _ (HY.out.below BwO.out)).mono ?_
              rintro e w9 ⟨v10, qs, it10, w10d, rfl, hl, b⟩
              have Bw9 := Lib.hid (BwO.out.trans (b.mono BwO.out.size))
              have HR1' := Lib.hid (HR1.out.below b)
              clear HR1
              have HR1 := HR1'
              clear HR1'
              obtain ⟨A10, c10, rfl, r10, hp10, hq10⟩ := hl.form
              have hl10 := hl.len
              have hw10 := Lib.hid hl.ds
              have HR10 := Lib.hid r10
              clear r10 hl b
              have hW10 : Hid (∀ x ∈ qs, smA x) := Lib.hid (fun x hx => (hw10.out x hx).sm)
              have HD10 := hw10
              clear hw10
              have hC10 := Lib.hid (And.intro hp10 hq10)
              clear hp10 hq10
              obtain ⟨who, h_who⟩ : ∃ who, who = whV qs it10 w10d := ⟨_, rfl⟩
              have HWH := Lib.hid h_who
              clear h_who
              obtain ⟨told, h_told⟩ : ∃ told, told = whB qs it10 w10d := ⟨_, rfl⟩
              have HTO := Lib.hid h_told
              clear h_told
              have hww : (who.toList == who.toList) = true := by simp
              go_wp2_with fail
              refine (implWhereIs_any A10 qs.length c10 qs it10 w10d _ rfl HR10.out (by omega) hW10.out hC10.out).mono ?_
              rintro e w10 ⟨rfl, b⟩
              rw [← HWH.out, ← HTO.out]
              have Bw10 := Lib.hid (Bw9.out.trans (b.mono Bw9.out.size))
              have HR1' := Lib.hid (HR1.out.below b)
              clear HR1
              have HR1 := HR1'
              clear HR1'
              have HR10' := Lib.hid (HR10.out.below b)
              clear HR10
              have HR10 := HR10'
              clear HR10'
              clear b
              go_wp2_with fail
              refine (specWhereIs_any A10 qs.length c10 qs it10 w10d _ rfl HR10.out (by omega) hW10.out hC10.out).mono ?_
              rintro e w11 ⟨rfl, b⟩
              rw [← HWH.out, ← HTO.out]
              have Bw11 := Lib.hid (Bw10.out.trans (b.mono Bw10.out.size))
              have HR1' := Lib.hid (HR1.out.below b)
              clear HR1
              have HR1 := HR1'
              clear HR1'
              clear b
              go_wp2_with fail
              refine (D4.out _ (HY.out.below Bw11.out)).mono ?_
              rintro e w12 ⟨v11, ps, on11, rfl, hl, b⟩
              have Bw12 := Lib.hid (Bw11.out.trans (b.mono Bw11.out.size))
              have HR1' := Lib.hid (HR1.out.below b)
              clear HR1
              have HR1 := HR1'
              clear HR1'
              obtain ⟨A11, c11, rfl, r11, hp11, hq11⟩ := hl.form
              have hl11 := hl.len
              have hw11 := Lib.hid hl.ds
              have HR11 := Lib.hid r11
              clear r11 hl b
              have hW11 : Hid (∀ x ∈ ps, smA x) := Lib.hid (fun x hx => (hw11.out x hx).sm)
              have HD11 := hw11
              clear hw11
              have hC11 := Lib.hid (And.intro hp11 hq11)
              clear hp11 hq11
              obtain ⟨kn, h_kn⟩ : ∃ kn, kn = ioB ps on11 := ⟨_, rfl⟩
              have HKN := Lib.hid h_kn
              clear h_kn
              obtain ⟨O, h_O⟩ : ∃ O, O = ioV ps on11 := ⟨_, rfl⟩
              have HOO := Lib.hid h_O
              clear h_O
              have hOn : O.length ≤ 1048576 := by rw [HOO.out]; exact ioV_len ps on11
              go_wp2_with fail
              refine (implItemsOut_any A11 ps.length c11 ps on11 _ rfl HR11.out (by omega) hW11.out hC11.out).mono ?_
              rintro e w13 ⟨v12, rfl, o, b⟩
              rw [← HKN.out]
              rw [← HOO.out] at o
              obtain ⟨A12, c12, rfl⟩ := own_form o
              have Bw13 := Lib.hid (Bw12.out.trans (b.mono Bw12.out.size))
              have HR1' := Lib.hid (HR1.out.below b)
              clear HR1
              have HR1 := HR1'
              clear HR1'
              have HR11' := Lib.hid (HR11.out.below b)
              clear HR11
              have HR11 := HR11'
              clear HR11'
              have HR12 := Lib.hid (Rd.of_own o)
              clear o b
              go_wp2_with fail
              refine (specItemsOut_any A11 ps.length c11 ps on11 _ rfl HR11.out (by omega) hW11.out hC11.out).mono ?_
              rintro e w14 ⟨v13, rfl, o, b⟩
              rw [← HKN.out]
              rw [← HOO.out] at o
              obtain ⟨A13, c13, rfl⟩ := own_form o
              have Bw14 := Lib.hid (Bw13.out.trans (b.mono Bw13.out.size))
              have HR1' := Lib.hid (HR1.out.below b)
              clear HR1
              have HR1 := HR1'
              clear HR1'
              have HR11' := Lib.hid (HR11.out.below b)
              clear HR11
              have HR11 := HR11'
              clear HR11'
              have HR12' := Lib.hid (HR12.out.below b)
              clear HR12
              have HR12 := HR12'
              clear HR12'
              have HR13 := Lib.hid (Rd.of_own o)
              clear o b
              go_wp2_with fail
              refine (rInts_same _ _ _ _ _ O _ rfl HR12.out HR13.out hOn).mono ?_
              rintro e w15 ⟨rfl, b⟩
              have Bw15 := Lib.hid (Bw14.out.trans (b.mono Bw14.out.size))
              have HR1' := Lib.hid (HR1.out.below b)
              clear HR1
              have HR1 := HR1'
              clear HR1'
              clear b
              obtain ⟨gd, h_gd⟩ : ∃ gd, gd = goodA xs := ⟨_, rfl⟩
              have HGD := Lib.hid h_gd
              clear h_gd
              go_wp2_with fail
              refine (implAreApprovals_any A1 xs.length c1 xs _ rfl HR1.out (by omega) hW1.out hC1.out).mono ?_
              rintro e w16 ⟨rfl, b⟩
              rw [← HGD.out]
              have Bw16 := Lib.hid (Bw15.out.trans (b.mono Bw15.out.size))
              have HR1' := Lib.hid (HR1.out.below b)
              clear HR1
              have HR1 := HR1'
              clear HR1'
              clear b
              go_wp2_with fail
              refine (specAreApprovals_any A1 xs.length c1 xs _ rfl HR1.out (by omega) hW1.out hC1.out).mono ?_
              rintro e w17 ⟨rfl, b⟩
              rw [← HGD.out]
              have Bw17 := Lib.hid (Bw16.out.trans (b.mono Bw16.out.size))
              have HR1' := Lib.hid (HR1.out.below b)
              clear HR1
              have HR1 := HR1'
              clear HR1'
              clear b
              go_wp2
              go_ret
              exact ⟨by first | rfl | simp, Bw17.out⟩
          · obtain rfl : t = us.length := by omega
            have BwO := Lib.hid (Bw8.out.trans (HBW.out.mono Bw8.out.size))
            have HR1' := Lib.hid (HR1.out.below HBW.out)
            clear HR1
            have HR1 := HR1'
            clear HR1'
            as_aux_lemma =>
              go_wp2_with fail
              refine (D3.out _ (HY.out.below BwO.out)).mono ?_
              rintro e w18 ⟨v10, qs, it10, w10d, rfl, hl, b⟩
              have Bw18 := Lib.hid (BwO.out.trans (b.mono BwO.out.size))
              have HR1' := Lib.hid (HR1.out.below b)
              clear HR1
              have HR1 := HR1'
              clear HR1'
              obtain ⟨A10, c10, rfl, r10, hp10, hq10⟩ := hl.form
              have hl10 := hl.len
              have hw10 := Lib.hid hl.ds
              have HR10 := Lib.hid r10
              clear r10 hl b
              have hW10 : Hid (∀ x ∈ qs, smA x) := Lib.hid (fun x hx => (hw10.out x hx).sm)
              have HD10 := hw10
              clear hw10
              have hC10 := Lib.hid (And.intro hp10 hq10)
              clear hp10 hq10
              obtain ⟨who, h_who⟩ : ∃ who, who = whV qs it10 w10d := ⟨_, rfl⟩
              have HWH := Lib.hid h_who
              clear h_who
              obtain ⟨told, h_told⟩ : ∃ told, told = whB qs it10 w10d := ⟨_, rfl⟩
              have HTO := Lib.hid h_told
              clear h_told
              have hww : (who.toList == who.toList) = true := by simp
              go_wp2_with fail
              refine (implWhereIs_any A10 qs.length c10 qs it10 w10d _ rfl HR10.out (by omega) hW10.out hC10.out).mono ?_
              rintro e w19 ⟨rfl, b⟩
              rw [← HWH.out, ← HTO.out]
              have Bw19 := Lib.hid (Bw18.out.trans (b.mono Bw18.out.size))
              have HR1' := Lib.hid (HR1.out.below b)
              clear HR1
              have HR1 := HR1'
              clear HR1'
              have HR10' := Lib.hid (HR10.out.below b)
              clear HR10
              have HR10 := HR10'
              clear HR10'
              clear b
              go_wp2_with fail
              refine (specWhereIs_any A10 qs.length c10 qs it10 w10d _ rfl HR10.out (by omega) hW10.out hC10.out).mono ?_
              rintro e w20 ⟨rfl, b⟩
              rw [← HWH.out, ← HTO.out]
              have Bw20 := Lib.hid (Bw19.out.trans (b.mono Bw19.out.size))
              have HR1' := Lib.hid (HR1.out.below b)
              clear HR1
              have HR1 := HR1'
              clear HR1'
              clear b
              go_wp2_with fail
              refine (D4.out _ (HY.out.below Bw20.out)).mono ?_
              rintro e w21 ⟨v11, ps, on11, rfl, hl, b⟩
              have Bw21 := Lib.hid (Bw20.out.trans (b.mono Bw20.out.size))
              have HR1' := Lib.hid (HR1.out.below b)
              clear HR1
              have HR1 := HR1'
              clear HR1'
              obtain ⟨A11, c11, rfl, r11, hp11, hq11⟩ := hl.form
              have hl11 := hl.len
              have hw11 := Lib.hid hl.ds
              have HR11 := Lib.hid r11
              clear r11 hl b
              have hW11 : Hid (∀ x ∈ ps, smA x) := Lib.hid (fun x hx => (hw11.out x hx).sm)
              have HD11 := hw11
              clear hw11
              have hC11 := Lib.hid (And.intro hp11 hq11)
              clear hp11 hq11
              obtain ⟨kn, h_kn⟩ : ∃ kn, kn = ioB ps on11 := ⟨_, rfl⟩
              have HKN := Lib.hid h_kn
              clear h_kn
              obtain ⟨O, h_O⟩ : ∃ O, O = ioV ps on11 := ⟨_, rfl⟩
              have HOO := Lib.hid h_O
              clear h_O
              have hOn : O.length ≤ 1048576 := by rw [HOO.out]; exact ioV_len ps on11
              go_wp2_with fail
              refine (implItemsOut_any A11 ps.length c11 ps on11 _ rfl HR11.out (by omega) hW11.out hC11.out).mono ?_
              rintro e w22 ⟨v12, rfl, o, b⟩
              rw [← HKN.out]
              rw [← HOO.out] at o
              obtain ⟨A12, c12, rfl⟩ := own_form o
              have Bw22 := Lib.hid (Bw21.out.trans (b.mono Bw21.out.size))
              have HR1' := Lib.hid (HR1.out.below b)
              clear HR1
              have HR1 := HR1'
              clear HR1'
              have HR11' := Lib.hid (HR11.out.below b)
              clear HR11
              have HR11 := HR11'
              clear HR11'
              have HR12 := Lib.hid (Rd.of_own o)
              clear o b
              go_wp2_with fail
              refine (specItemsOut_any A11 ps.length c11 ps on11 _ rfl HR11.out (by omega) hW11.out hC11.out).mono ?_
              rintro e w23 ⟨v13, rfl, o, b⟩
              rw [← HKN.out]
              rw [← HOO.out] at o
              obtain ⟨A13, c13, rfl⟩ := own_form o
              have Bw23 := Lib.hid (Bw22.out.trans (b.mono Bw22.out.size))
              have HR1' := Lib.hid (HR1.out.below b)
              clear HR1
              have HR1 := HR1'
              clear HR1'
              have HR11' := Lib.hid (HR11.out.below b)
              clear HR11
              have HR11 := HR11'
              clear HR11'
              have HR12' := Lib.hid (HR12.out.below b)
              clear HR12
              have HR12 := HR12'
              clear HR12'
              have HR13 := Lib.hid (Rd.of_own o)
              clear o b
              go_wp2_with fail
              refine (rInts_same _ _ _ _ _ O _ rfl HR12.out HR13.out hOn).mono ?_
              rintro e w24 ⟨rfl, b⟩
              have Bw24 := Lib.hid (Bw23.out.trans (b.mono Bw23.out.size))
              have HR1' := Lib.hid (HR1.out.below b)
              clear HR1
              have HR1 := HR1'
              clear HR1'
              clear b
              obtain ⟨gd, h_gd⟩ : ∃ gd, gd = goodA xs := ⟨_, rfl⟩
              have HGD := Lib.hid h_gd
              clear h_gd
              go_wp2_with fail
              refine (implAreApprovals_any A1 xs.length c1 xs _ rfl HR1.out (by omega) hW1.out hC1.out).mono ?_
              rintro e w25 ⟨rfl, b⟩
              rw [← HGD.out]
              have Bw25 := Lib.hid (Bw24.out.trans (b.mono Bw24.out.size))
              have HR1' := Lib.hid (HR1.out.below b)
              clear HR1
              have HR1 := HR1'
              clear HR1'
              clear b
              go_wp2_with fail
              refine (specAreApprovals_any A1 xs.length c1 xs _ rfl HR1.out (by omega) hW1.out hC1.out).mono ?_
              rintro e w26 ⟨rfl, b⟩
              rw [← HGD.out]
              have Bw26 := Lib.hid (Bw25.out.trans (b.mono Bw25.out.size))
              have HR1' := Lib.hid (HR1.out.below b)
              clear HR1
              have HR1 := HR1'
              clear HR1'
              clear b
              go_wp2
              go_ret
              exact ⟨by first | rfl | simp, Bw26.out⟩
      | true =>
        go_wp2_with fail
        go_loopw [28, 29, 30, 31, 32, 33] (fun i _ _ _ _ _ wr => ∃ t : Nat, i = .int .i64 t ∧ t ≤ us.length ∧ Below w8.heap.size w8 wr) (fun i _ _ _ _ _ _ => us.length - (intOf i).toNat)
        case atStart => exact ⟨0, rfl, by omega, Below.refl _ _⟩
        case round =>
          obtain ⟨wO, hwO⟩ : ∃ x, x = wr := ⟨wr, rfl⟩
          subst hwO
          obtain ⟨t, rfl, ht, hbw⟩ := hrel
          have HBW := Lib.hid hbw
          have hsw := hbw.size
          clear hbw
          by_cases htl : t < us.length
          · have htl' : (t : Int) < (us.length : Int) := by omega
            obtain ⟨y, ey⟩ : ∃ y, us[t]? = some y := ⟨_, List.getElem?_eq_getElem htl⟩
            have ht0 : (0 : Int) ≤ (t : Int) := by omega
            have hym := List.mem_of_getElem? ey
            have hyn := (HD5.out y hym).2.1
            have hyc := (HD5.out y hym).1
            obtain ⟨gy, oy, By, cy, Dy, ey2, eA, hrow⟩ := (HR5.out.below HBW.out).at ey
            subst eA
            have HROW := Lib.hid hrow
            have HEY := Lib.hid ey
            clear hrow ey hym
            by_cases hid : y.id = x5
            · have hidn : (y.id != x5) = false := by simp [hid]
              obtain ⟨f1, f2⟩ := back_facts HFI.out.symm HEY.out hid
              rw [← HRV.out] at f1 f2
              have F1 := Lib.hid f1
              have F2 := Lib.hid f2
              clear f1 f2 hid
              obtain ⟨BY, h_BY⟩ : ∃ BY, BY = byV R y.client := ⟨_, rfl⟩
              have HBY := Lib.hid h_BY
              clear h_BY
              rw [← HBY.out] at F2
              have hBYn : BY.length ≤ 1048576 := by rw [HBY.out]; exact byV_len R y.client
              have y0 := HROW.out.c0
              have y1 := HROW.out.c1
              have hgy := HROW.out.lt
              have HRw := Lib.hid (HR8.out.below HBW.out)
              have hyc2 : (y.client.size : Int) ≤ 1048576 := by omega
              go_wp2_with fail
              refine (implBoughtBy_any A8 R.length c8 R y.client _ rfl HRw.out hRn hWR.out hC8.out hyc2).mono ?_
              rintro e wa ⟨va, rfl, o, b⟩
              rw [F1.out]
              rw [← HBY.out] at o
              obtain ⟨Aa, ca, rfl⟩ := own_form o
              have HBA := Lib.hid (HBW.out.trans (b.mono HBW.out.size))
              have HIB := Lib.hid (Rd.of_own o)
              have HROWA := Lib.hid (HROW.out.below b)
              clear o b y0 y1 HRw HROW
              have y3 := HROWA.out.c3
              go_wp2_with fail
              clear y3
              go_loopw [31, 32, 33] (fun i _ _ wr => ∃ s : Nat, i = .int .i64 s ∧ s ≤ y.items.length ∧ Below wa.heap.size wa wr) (fun i _ _ _ => y.items.length - (intOf i).toNat)
              case atStart => exact ⟨0, rfl, by omega, Below.refl _ _⟩
              case round =>
                obtain ⟨s, rfl, hs, hbx⟩ := hrel
                have HBX := Lib.hid hbx
                have HROWX := Lib.hid (HROWA.out.below hbx)
                have HBZ := Lib.hid (HBA.out.trans (hbx.mono HBA.out.size))
                clear hbx
                have y3 := HROWX.out.c3
                have hgy2 := HROWX.out.lt
                by_cases hsl : s < y.items.length
                · have hsl' : (s : Int) < (y.items.length : Int) := by omega
                  obtain ⟨z, ez⟩ : ∃ z, y.items[s]? = some z := ⟨_, List.getElem?_eq_getElem hsl⟩
                  obtain ⟨g1, g2, g3, g4⟩ := F2.out z (List.mem_of_getElem? ez)
                  have G1 := Lib.hid g1
                  have hs0 : (0 : Int) ≤ (s : Int) := by omega
                  obtain ⟨gz, oz, eB, hgz, cz⟩ := HROWX.out.rB.at1 ez
                  subst eB
                  have HRx := Lib.hid (HR8.out.below HBZ.out)
                  clear ez g1
                  cases hk : hasB ts z with
                  | true =>
                    rw [hk] at g2
                    simp only [if_true, if_false, Bool.false_eq_true] at g2
                    have G2 := Lib.hid g2
                    have G3 := Lib.hid (g3 hk)
                    have hcc : (y.client.toList == y.client.toList) = true := by simp
                    have HKT := Lib.hid hk
                    clear g2 g3 g4 hk
                    go_wp2_with fail
                    refine (implWhereIs_any A8 R.length c8 R z at5 _ rfl HRx.out hRn hWR.out hC8.out).mono ?_
                    rintro e wb ⟨rfl, b⟩
                    rw [G1.out, G2.out]
                    have cz2 := (b.cell (p := ⟨gz, oz + s, none⟩) hgz).trans cz
                    have hgz2 := Nat.lt_of_lt_of_le hgz b.size
                    have HROWB := Lib.hid (HROWX.out.below b)
                    have HBC := Lib.hid (HBX.out.trans (b.mono HBX.out.size))
                    have HBT := Lib.hid (HBZ.out.trans (b.mono HBZ.out.size))
                    clear b cz y3 HRx
                    have y1 := HROWB.out.c1
                    have y3 := HROWB.out.c3
                    have hgy3 := HROWB.out.lt
                    have HTT := Lib.hid (HT.out.below HBT.out)
                    have HII := Lib.hid (HIB.out.below HBC.out)
                    have CT := Lib.hid (fun w h => rHas_any A7 ts.length c7 ts z w rfl h (by omega))
                    rw [HKT.out] at CT
                    have CI := Lib.hid (fun w h => rHas_any Aa BY.length ca BY z w rfl h hBYn)
                    rw [G3.out] at CI
                    go_wp2_with fail
                    refine wp_region_lat wb.heap.size (by kernel_rfl) (by kernel_rfl) ?_
                    have LC := fun (u : Lat wb.heap.size wb) => u.cell
                    try dsimp only [List.append_eq, List.cons_append, List.nil_append]
                    repeat (go_big_quiet_step ((go_at_call 11; first | (with_reducible exact lat_same _ (CT.out _ (HTT.out.below (Lat.below _)))) | (with_reducible exact lat_same _ (CI.out _ (HII.out.below (Lat.below _)))))))
                    refine wpQuiet_nil ?_
                    intro wd hbd
                    clear LC
                    have HBF := Lib.hid (HBC.out.trans (hbd.mono HBC.out.size))
                    clear hbd
                    go_wp2
                    go_roundw
                    case rel => exact ⟨s + 1, by go_num, by omega, HBF.out⟩
                    case measure => simp [intOf]; omega
                  | false =>
                    rw [hk] at g2
                    simp only [if_true, if_false, Bool.false_eq_true] at g2
                    have G2 := Lib.hid g2
                    have hcc := (client_ne2 g4).1
                    have hcd := (client_ne2 g4).2
                    have HKT := Lib.hid hk
                    clear g2 g3 g4 hk
                    go_wp2_with fail
                    refine (implWhereIs_any A8 R.length c8 R z at5 _ rfl HRx.out hRn hWR.out hC8.out).mono ?_
                    rintro e wb ⟨rfl, b⟩
                    rw [G1.out, G2.out]
                    have cz2 := (b.cell (p := ⟨gz, oz + s, none⟩) hgz).trans cz
                    have hgz2 := Nat.lt_of_lt_of_le hgz b.size
                    have HROWB := Lib.hid (HROWX.out.below b)
                    have HBC := Lib.hid (HBX.out.trans (b.mono HBX.out.size))
                    have HBT := Lib.hid (HBZ.out.trans (b.mono HBZ.out.size))
                    clear b cz y3 HRx
                    have y1 := HROWB.out.c1
                    have y3 := HROWB.out.c3
                    have hgy3 := HROWB.out.lt
                    have HTT := Lib.hid (HT.out.below HBT.out)
                    have HII := Lib.hid (HIB.out.below HBC.out)
                    have CT := Lib.hid (fun w h => rHas_any A7 ts.length c7 ts z w rfl h (by omega))
                    rw [HKT.out] at CT
                    go_wp2_with fail
                    refine wp_region_lat wb.heap.size (by kernel_rfl) (by kernel_rfl) ?_
                    have LC := fun (u : Lat wb.heap.size wb) => u.cell
                    try dsimp only [List.append_eq, List.cons_append, List.nil_append]
                    repeat (go_big_quiet_step ((go_at_call 11; first | (with_reducible exact lat_same _ (CT.out _ (HTT.out.below (Lat.below _)))))))
                    refine wpQuiet_nil ?_
                    intro wd hbd
                    clear LC
                    have HBF := Lib.hid (HBC.out.trans (hbd.mono HBC.out.size))
                    clear hbd
                    go_wp2
                    go_roundw
                    case rel => exact ⟨s + 1, by go_num, by omega, HBF.out⟩
                    case measure => simp [intOf]; omega
                · obtain rfl : s = y.items.length := by omega
                  clear HROWX
                  go_wp2
                  go_roundw
                  case rel => exact ⟨t + 1, by go_num, by omega, HBZ.out⟩
                  case measure => simp [intOf]; omega
            · have hidn : (y.id != x5) = true := by simp [hid]
              have y0 := HROW.out.c0
              have hgy := HROW.out.lt
              clear HROW
              go_wp2
              go_roundw
              case rel => exact ⟨t + 1, by go_num, by omega, HBW.out⟩
              case measure => simp [intOf]; omega
          · obtain rfl : t = us.length := by omega
            have BwO := Lib.hid (Bw8.out.trans (HBW.out.mono Bw8.out.size))
            have HR1' := Lib.hid (HR1.out.below HBW.out)
            clear HR1
            have HR1 := HR1'
            clear HR1'
            as_aux_lemma =>
              go_wp2_with fail
              refine (D3.out _ (HY.out.below BwO.out)).mono ?_
              rintro e w27 ⟨v10, qs, it10, w10d, rfl, hl, b⟩
              have Bw27 := Lib.hid (BwO.out.trans (b.mono BwO.out.size))
              have HR1' := Lib.hid (HR1.out.below b)
              clear HR1
              have HR1 := HR1'
              clear HR1'
              obtain ⟨A10, c10, rfl, r10, hp10, hq10⟩ := hl.form
              have hl10 := hl.len
              have hw10 := Lib.hid hl.ds
              have HR10 := Lib.hid r10
              clear r10 hl b
              have hW10 : Hid (∀ x ∈ qs, smA x) := Lib.hid (fun x hx => (hw10.out x hx).sm)
              have HD10 := hw10
              clear hw10
              have hC10 := Lib.hid (And.intro hp10 hq10)
              clear hp10 hq10
              obtain ⟨who, h_who⟩ : ∃ who, who = whV qs it10 w10d := ⟨_, rfl⟩
              have HWH := Lib.hid h_who
              clear h_who
              obtain ⟨told, h_told⟩ : ∃ told, told = whB qs it10 w10d := ⟨_, rfl⟩
              have HTO := Lib.hid h_told
              clear h_told
              have hww : (who.toList == who.toList) = true := by simp
              go_wp2_with fail
              refine (implWhereIs_any A10 qs.length c10 qs it10 w10d _ rfl HR10.out (by omega) hW10.out hC10.out).mono ?_
              rintro e w28 ⟨rfl, b⟩
              rw [← HWH.out, ← HTO.out]
              have Bw28 := Lib.hid (Bw27.out.trans (b.mono Bw27.out.size))
              have HR1' := Lib.hid (HR1.out.below b)
              clear HR1
              have HR1 := HR1'
              clear HR1'
              have HR10' := Lib.hid (HR10.out.below b)
              clear HR10
              have HR10 := HR10'
              clear HR10'
              clear b
              go_wp2_with fail
              refine (specWhereIs_any A10 qs.length c10 qs it10 w10d _ rfl HR10.out (by omega) hW10.out hC10.out).mono ?_
              rintro e w29 ⟨rfl, b⟩
              rw [← HWH.out, ← HTO.out]
              have Bw29 := Lib.hid (Bw28.out.trans (b.mono Bw28.out.size))
              have HR1' := Lib.hid (HR1.out.below b)
              clear HR1
              have HR1 := HR1'
              clear HR1'
              clear b
              go_wp2_with fail
              refine (D4.out _ (HY.out.below Bw29.out)).mono ?_
              rintro e w30 ⟨v11, ps, on11, rfl, hl, b⟩
              have Bw30 := Lib.hid (Bw29.out.trans (b.mono Bw29.out.size))
              have HR1' := Lib.hid (HR1.out.below b)
              clear HR1
              have HR1 := HR1'
              clear HR1'
              obtain ⟨A11, c11, rfl, r11, hp11, hq11⟩ := hl.form
              have hl11 := hl.len
              have hw11 := Lib.hid hl.ds
              have HR11 := Lib.hid r11
              clear r11 hl b
              have hW11 : Hid (∀ x ∈ ps, smA x) := Lib.hid (fun x hx => (hw11.out x hx).sm)
              have HD11 := hw11
              clear hw11
              have hC11 := Lib.hid (And.intro hp11 hq11)
              clear hp11 hq11
              obtain ⟨kn, h_kn⟩ : ∃ kn, kn = ioB ps on11 := ⟨_, rfl⟩
              have HKN := Lib.hid h_kn
              clear h_kn
              obtain ⟨O, h_O⟩ : ∃ O, O = ioV ps on11 := ⟨_, rfl⟩
              have HOO := Lib.hid h_O
              clear h_O
              have hOn : O.length ≤ 1048576 := by rw [HOO.out]; exact ioV_len ps on11
              go_wp2_with fail
              refine (implItemsOut_any A11 ps.length c11 ps on11 _ rfl HR11.out (by omega) hW11.out hC11.out).mono ?_
              rintro e w31 ⟨v12, rfl, o, b⟩
              rw [← HKN.out]
              rw [← HOO.out] at o
              obtain ⟨A12, c12, rfl⟩ := own_form o
              have Bw31 := Lib.hid (Bw30.out.trans (b.mono Bw30.out.size))
              have HR1' := Lib.hid (HR1.out.below b)
              clear HR1
              have HR1 := HR1'
              clear HR1'
              have HR11' := Lib.hid (HR11.out.below b)
              clear HR11
              have HR11 := HR11'
              clear HR11'
              have HR12 := Lib.hid (Rd.of_own o)
              clear o b
              go_wp2_with fail
              refine (specItemsOut_any A11 ps.length c11 ps on11 _ rfl HR11.out (by omega) hW11.out hC11.out).mono ?_
              rintro e w32 ⟨v13, rfl, o, b⟩
              rw [← HKN.out]
              rw [← HOO.out] at o
              obtain ⟨A13, c13, rfl⟩ := own_form o
              have Bw32 := Lib.hid (Bw31.out.trans (b.mono Bw31.out.size))
              have HR1' := Lib.hid (HR1.out.below b)
              clear HR1
              have HR1 := HR1'
              clear HR1'
              have HR11' := Lib.hid (HR11.out.below b)
              clear HR11
              have HR11 := HR11'
              clear HR11'
              have HR12' := Lib.hid (HR12.out.below b)
              clear HR12
              have HR12 := HR12'
              clear HR12'
              have HR13 := Lib.hid (Rd.of_own o)
              clear o b
              go_wp2_with fail
              refine (rInts_same _ _ _ _ _ O _ rfl HR12.out HR13.out hOn).mono ?_
              rintro e w33 ⟨rfl, b⟩
              have Bw33 := Lib.hid (Bw32.out.trans (b.mono Bw32.out.size))
              have HR1' := Lib.hid (HR1.out.below b)
              clear HR1
              have HR1 := HR1'
              clear HR1'
              clear b
              obtain ⟨gd, h_gd⟩ : ∃ gd, gd = goodA xs := ⟨_, rfl⟩
              have HGD := Lib.hid h_gd
              clear h_gd
              go_wp2_with fail
              refine (implAreApprovals_any A1 xs.length c1 xs _ rfl HR1.out (by omega) hW1.out hC1.out).mono ?_
              rintro e w34 ⟨rfl, b⟩
              rw [← HGD.out]
              have Bw34 := Lib.hid (Bw33.out.trans (b.mono Bw33.out.size))
              have HR1' := Lib.hid (HR1.out.below b)
              clear HR1
              have HR1 := HR1'
              clear HR1'
              clear b
              go_wp2_with fail
              refine (specAreApprovals_any A1 xs.length c1 xs _ rfl HR1.out (by omega) hW1.out hC1.out).mono ?_
              rintro e w35 ⟨rfl, b⟩
              rw [← HGD.out]
              have Bw35 := Lib.hid (Bw34.out.trans (b.mono Bw34.out.size))
              have HR1' := Lib.hid (HR1.out.below b)
              clear HR1
              have HR1 := HR1'
              clear HR1'
              clear b
              go_wp2
              go_ret
              exact ⟨by first | rfl | simp, Bw35.out⟩
  | true =>
    obtain ⟨f1, f2⟩ := send_facts HOK.out.symm
    rw [← HS.out] at f1 f2
    have F1 := Lib.hid f1
    have F2 := Lib.hid f2
    clear f1 f2
    obtain ⟨IO, h_IO⟩ : ∃ IO, IO = ioV S d := ⟨_, rfl⟩
    have HIO := Lib.hid h_IO
    clear h_IO
    rw [← HIO.out] at F2
    have hIOn : IO.length ≤ 1048576 := by rw [HIO.out]; exact ioV_len S d
    go_wp2_with fail
    refine (implItemsOut_any A2 S.length c2 S d _ rfl HR2.out hSn hWS.out hC2.out).mono ?_
    rintro e w36 ⟨v4, rfl, o, b⟩
    rw [F1.out]
    rw [← HIO.out] at o
    obtain ⟨A4, c4, rfl⟩ := own_form o
    have Bw36 := Lib.hid (Bw4.out.trans (b.mono Bw4.out.size))
    have HR1' := Lib.hid (HR1.out.below b)
    clear HR1
    have HR1 := HR1'
    clear HR1'
    have HK' := Lib.hid (HK.out.below b)
    clear HK
    have HK := HK'
    clear HK'
    have HR2' := Lib.hid (HR2.out.below b)
    clear HR2
    have HR2 := HR2'
    clear HR2'
    have HI4 := Lib.hid (Rd.of_own o)
    clear o b
    go_wp2_with fail
    go_loopw [15, 16, 17, 18, 19] (fun i _ _ _ _ wr => ∃ t : Nat, i = .int .i64 t ∧ t ≤ ks.length ∧ Below w36.heap.size w36 wr) (fun i _ _ _ _ _ => ks.length - (intOf i).toNat)
    case atStart => exact ⟨0, rfl, by omega, Below.refl _ _⟩
    case round =>
      obtain ⟨t, rfl, ht, hbw⟩ := hrel
      have HBW := Lib.hid hbw
      have hsw := hbw.size
      clear hbw
      by_cases htl : t < ks.length
      · have htl' : (t : Int) < (ks.length : Int) := by omega
        obtain ⟨z, ez⟩ : ∃ z, ks[t]? = some z := ⟨_, List.getElem?_eq_getElem htl⟩
        obtain ⟨g1, g2, g3, g4, g5⟩ := F2.out z (List.mem_of_getElem? ez)
        have G1 := Lib.hid g1
        have G2 := Lib.hid g2
        have G3 := Lib.hid g3
        have G4 := Lib.hid g4
        have G5 := Lib.hid g5
        have ht0 : (0 : Int) ≤ (t : Int) := by omega
        have hcc : (cl.toList != cl.toList) = false := by simp
        have hee : ((⟨#[]⟩ : ByteArray).toList != (⟨#[]⟩ : ByteArray).toList) = false := by simp
        obtain ⟨gz, oz, eAz, hgz, cz⟩ := (HK.out.below HBW.out).at1 ez
        subst eAz
        have HRw := Lib.hid (HR2.out.below HBW.out)
        clear g1 g2 g3 g4 g5 ez
        go_wp2_with fail
        refine (implWhereIs_any A2 S.length c2 S z d _ rfl HRw.out hSn hWS.out hC2.out).mono ?_
        rintro e wa ⟨rfl, b⟩
        rw [G3.out, G1.out]
        have cz2 := (b.cell (p := ⟨gz, oz + t, none⟩) hgz).trans cz
        have hgz2 := Nat.lt_of_lt_of_le hgz b.size
        have HBA := Lib.hid (HBW.out.trans (b.mono HBW.out.size))
        clear b cz HRw
        have HRx := Lib.hid (HR1.out.below HBA.out)
        go_wp2_with fail
        refine (implWhereIs_any A1 xs.length c1 xs z d _ rfl HRx.out (by omega) hW1.out hC1.out).mono ?_
        rintro e wb ⟨rfl, b⟩
        rw [G4.out, G2.out]
        have cz3 := (b.cell (p := ⟨gz, oz + t, none⟩) hgz2).trans cz2
        have HBC := Lib.hid (HBA.out.trans (b.mono HBA.out.size))
        clear b cz2 HRx
        have HIx := Lib.hid (HI4.out.below HBC.out)
        go_wp2_with fail
        refine (rHas_any A4 IO.length c4 IO z _ rfl HIx.out hIOn).mono ?_
        rintro e wc ⟨rfl, rfl⟩
        rw [G5.out]
        go_wp2
        go_roundw
        case rel => exact ⟨t + 1, by go_num, by omega, HBC.out⟩
        case measure => simp [intOf]; omega
      · obtain rfl : t = ks.length := by omega
        have Bwr := Lib.hid (Bw36.out.trans (HBW.out.mono Bw36.out.size))
        have HR1' := Lib.hid (HR1.out.below HBW.out)
        clear HR1
        have HR1 := HR1'
        clear HR1'
        as_aux_lemma =>
          go_wp2_with fail
          refine (D2.out _ (HY.out.below Bwr.out)).mono ?_
          rintro e w37 ⟨v5, us, x5, at5, A7, c7, ts, rfl, hl, hr, htl5, hcp, b⟩
          have Bw37 := Lib.hid (Bwr.out.trans (b.mono Bwr.out.size))
          have HR1' := Lib.hid (HR1.out.below b)
          clear HR1
          have HR1 := HR1'
          clear HR1'
          have HT := Lib.hid hr
          clear hr hcp
          obtain ⟨A5, c5, rfl, r5, hp5, hq5⟩ := hl.form
          have hl5 := hl.len
          have hw5 := Lib.hid hl.ds
          have HR5 := Lib.hid r5
          clear r5 hl b
          have hW5 : Hid (∀ x ∈ us, smA x) := Lib.hid (fun x hx => (hw5.out x hx).sm)
          have HD5 := hw5
          clear hw5
          have hC5 := Lib.hid (And.intro hp5 hq5)
          clear hp5 hq5
          obtain ⟨fine, h_fine⟩ : ∃ fine, fine = tbB us x5 at5 ts := ⟨_, rfl⟩
          have HFI := Lib.hid h_fine
          clear h_fine
          obtain ⟨R, h_R⟩ : ∃ R, R = tbV us x5 at5 ts := ⟨_, rfl⟩
          have HRV := Lib.hid h_R
          clear h_R
          have HRM := Lib.hid (tb_small us x5 at5 ts)
          rw [← HRV.out] at HRM
          have hRn := HRM.out.1
          have hWR := Lib.hid HRM.out.2.1
          go_wp2_with fail
          refine (implTakeBack_any A5 us.length c5 us x5 at5 A7 ts.length c7 ts _ rfl HR5.out (by omega) hW5.out hC5.out rfl HT.out (by omega)).mono ?_
          rintro e w38 ⟨v8, vs8, rfl, o, b⟩
          rw [← HFI.out]
          rw [← HRV.out] at o
          obtain ⟨A8, c8, rfl⟩ := own_form o.2.1
          have Bw38 := Lib.hid (Bw37.out.trans (b.mono Bw37.out.size))
          have HR1' := Lib.hid (HR1.out.below b)
          clear HR1
          have HR1 := HR1'
          clear HR1'
          have HR5' := Lib.hid (HR5.out.below b)
          clear HR5
          have HR5 := HR5'
          clear HR5'
          have HT' := Lib.hid (HT.out.below b)
          clear HT
          have HT := HT'
          clear HT'
          have HR8 := Lib.hid o.rd2
          have hC8 := Lib.hid (own_capS o.2.1)
          clear o b
          go_wp2_with fail
          refine (specTakeBack_any A5 us.length c5 us x5 at5 A7 ts.length c7 ts _ rfl HR5.out (by omega) hW5.out hC5.out rfl HT.out (by omega)).mono ?_
          rintro e w39 ⟨v9, vs9, rfl, o, b⟩
          rw [← HFI.out]
          rw [← HRV.out] at o
          obtain ⟨A9, c9, rfl⟩ := own_form o.2.1
          have Bw39 := Lib.hid (Bw38.out.trans (b.mono Bw38.out.size))
          have HR1' := Lib.hid (HR1.out.below b)
          clear HR1
          have HR1 := HR1'
          clear HR1'
          have HR5' := Lib.hid (HR5.out.below b)
          clear HR5
          have HR5 := HR5'
          clear HR5'
          have HT' := Lib.hid (HT.out.below b)
          clear HT
          have HT := HT'
          clear HT'
          have HR8' := Lib.hid (HR8.out.below b)
          clear HR8
          have HR8 := HR8'
          clear HR8'
          have HR9 := Lib.hid o.rd2
          have hC9 := Lib.hid (own_capS o.2.1)
          clear o b
          go_wp2_with fail
          refine (rApprovals_same _ _ _ _ _ R _ rfl HR8.out HR9.out hRn hWR.out).mono ?_
          rintro e w40 ⟨rfl, b⟩
          have Bw40 := Lib.hid (Bw39.out.trans (b.mono Bw39.out.size))
          have HR1' := Lib.hid (HR1.out.below b)
          clear HR1
          have HR1 := HR1'
          clear HR1'
          have HR5' := Lib.hid (HR5.out.below b)
          clear HR5
          have HR5 := HR5'
          clear HR5'
          have HT' := Lib.hid (HT.out.below b)
          clear HT
          have HT := HT'
          clear HT'
          have HR8' := Lib.hid (HR8.out.below b)
          clear HR8
          have HR8 := HR8'
          clear HR8'
          clear b
          cases fine with
          | false =>
            go_wp2_with fail
            go_loopw [28, 29, 30, 31, 32, 33] (fun i _ _ _ _ _ wr => ∃ t : Nat, i = .int .i64 t ∧ t ≤ us.length ∧ Below w40.heap.size w40 wr) (fun i _ _ _ _ _ _ => us.length - (intOf i).toNat)
            case atStart => exact ⟨0, rfl, by omega, Below.refl _ _⟩
            case round =>
              obtain ⟨wO, hwO⟩ : ∃ x, x = wr := ⟨wr, rfl⟩
              subst hwO
              obtain ⟨t, rfl, ht, hbw⟩ := hrel
              have HBW := Lib.hid hbw
              have hsw := hbw.size
              clear hbw
              by_cases htl : t < us.length
              · have htl' : (t : Int) < (us.length : Int) := by omega
                have BwO := Lib.hid (Bw40.out.trans (HBW.out.mono Bw40.out.size))
                have HR1' := Lib.hid (HR1.out.below HBW.out)
                clear HR1
                have HR1 := HR1'
                clear HR1'
                as_aux_lemma =>
                  go_wp2_with fail
                  refine (D3.out _ (HY.out.below BwO.out)).mono ?_
                  rintro e w41 ⟨v10, qs, it10, w10d, rfl, hl, b⟩
                  have Bw41 := Lib.hid (BwO.out.trans (b.mono BwO.out.size))
                  have HR1' := Lib.hid (HR1.out.below b)
                  clear HR1
                  have HR1 := HR1'
                  clear HR1'
                  obtain ⟨A10, c10, rfl, r10, hp10, hq10⟩ := hl.form
                  have hl10 := hl.len
                  have hw10 := Lib.hid hl.ds
                  have HR10 := Lib.hid r10
                  clear r10 hl b
                  have hW10 : Hid (∀ x ∈ qs, smA x) := Lib.hid (fun x hx => (hw10.out x hx).sm)
                  have HD10 := hw10
                  clear hw10
                  have hC10 := Lib.hid (And.intro hp10 hq10)
                  clear hp10 hq10
                  obtain ⟨who, h_who⟩ : ∃ who, who = whV qs it10 w10d := ⟨_, rfl⟩
                  have HWH := Lib.hid h_who
                  clear h_who
                  obtain ⟨told, h_told⟩ : ∃ told, told = whB qs it10 w10d := ⟨_, rfl⟩
                  have HTO := Lib.hid h_told
                  clear h_told
                  have hww : (who.toList == who.toList) = true := by simp
                  go_wp2_with fail
                  refine (implWhereIs_any A10 qs.length c10 qs it10 w10d _ rfl HR10.out (by omega) hW10.out hC10.out).mono ?_
                  rintro e w42 ⟨rfl, b⟩
                  rw [← HWH.out, ← HTO.out]
                  have Bw42 := Lib.hid (Bw41.out.trans (b.mono Bw41.out.size))
                  have HR1' := Lib.hid (HR1.out.below b)
                  clear HR1
                  have HR1 := HR1'
                  clear HR1'
                  have HR10' := Lib.hid (HR10.out.below b)
                  clear HR10
                  have HR10 := HR10'
                  clear HR10'
                  clear b
                  go_wp2_with fail
                  refine (specWhereIs_any A10 qs.length c10 qs it10 w10d _ rfl HR10.out (by omega) hW10.out hC10.out).mono ?_
                  rintro e w43 ⟨rfl, b⟩
                  rw [← HWH.out, ← HTO.out]
                  have Bw43 := Lib.hid (Bw42.out.trans (b.mono Bw42.out.size))
                  have HR1' := Lib.hid (HR1.out.below b)
                  clear HR1
                  have HR1 := HR1'
                  clear HR1'
                  clear b
                  go_wp2_with fail
                  refine (D4.out _ (HY.out.below Bw43.out)).mono ?_
                  rintro e w44 ⟨v11, ps, on11, rfl, hl, b⟩
                  have Bw44 := Lib.hid (Bw43.out.trans (b.mono Bw43.out.size))
                  have HR1' := Lib.hid (HR1.out.below b)
                  clear HR1
                  have HR1 := HR1'
                  clear HR1'
                  obtain ⟨A11, c11, rfl, r11, hp11, hq11⟩ := hl.form
                  have hl11 := hl.len
                  have hw11 := Lib.hid hl.ds
                  have HR11 := Lib.hid r11
                  clear r11 hl b
                  have hW11 : Hid (∀ x ∈ ps, smA x) := Lib.hid (fun x hx => (hw11.out x hx).sm)
                  have HD11 := hw11
                  clear hw11
                  have hC11 := Lib.hid (And.intro hp11 hq11)
                  clear hp11 hq11
                  obtain ⟨kn, h_kn⟩ : ∃ kn, kn = ioB ps on11 := ⟨_, rfl⟩
                  have HKN := Lib.hid h_kn
                  clear h_kn
                  obtain ⟨O, h_O⟩ : ∃ O, O = ioV ps on11 := ⟨_, rfl⟩
                  have HOO := Lib.hid h_O
                  clear h_O
                  have hOn : O.length ≤ 1048576 := by rw [HOO.out]; exact ioV_len ps on11
                  go_wp2_with fail
                  refine (implItemsOut_any A11 ps.length c11 ps on11 _ rfl HR11.out (by omega) hW11.out hC11.out).mono ?_
                  rintro e w45 ⟨v12, rfl, o, b⟩
                  rw [← HKN.out]
                  rw [← HOO.out] at o
                  obtain ⟨A12, c12, rfl⟩ := own_form o
                  have Bw45 := Lib.hid (Bw44.out.trans (b.mono Bw44.out.size))
                  have HR1' := Lib.hid (HR1.out.below b)
                  clear HR1
                  have HR1 := HR1'
                  clear HR1'
                  have HR11' := Lib.hid (HR11.out.below b)
                  clear HR11
                  have HR11 := HR11'
                  clear HR11'
                  have HR12 := Lib.hid (Rd.of_own o)
                  clear o b
                  go_wp2_with fail
                  refine (specItemsOut_any A11 ps.length c11 ps on11 _ rfl HR11.out (by omega) hW11.out hC11.out).mono ?_
                  rintro e w46 ⟨v13, rfl, o, b⟩
                  rw [← HKN.out]
                  rw [← HOO.out] at o
                  obtain ⟨A13, c13, rfl⟩ := own_form o
                  have Bw46 := Lib.hid (Bw45.out.trans (b.mono Bw45.out.size))
                  have HR1' := Lib.hid (HR1.out.below b)
                  clear HR1
                  have HR1 := HR1'
                  clear HR1'
                  have HR11' := Lib.hid (HR11.out.below b)
                  clear HR11
                  have HR11 := HR11'
                  clear HR11'
                  have HR12' := Lib.hid (HR12.out.below b)
                  clear HR12
                  have HR12 := HR12'
                  clear HR12'
                  have HR13 := Lib.hid (Rd.of_own o)
                  clear o b
                  go_wp2_with fail
                  refine (rInts_same _ _ _ _ _ O _ rfl HR12.out HR13.out hOn).mono ?_
                  rintro e w47 ⟨rfl, b⟩
                  have Bw47 := Lib.hid (Bw46.out.trans (b.mono Bw46.out.size))
                  have HR1' := Lib.hid (HR1.out.below b)
                  clear HR1
                  have HR1 := HR1'
                  clear HR1'
                  clear b
                  obtain ⟨gd, h_gd⟩ : ∃ gd, gd = goodA xs := ⟨_, rfl⟩
                  have HGD := Lib.hid h_gd
                  clear h_gd
                  go_wp2_with fail
                  refine (implAreApprovals_any A1 xs.length c1 xs _ rfl HR1.out (by omega) hW1.out hC1.out).mono ?_
                  rintro e w48 ⟨rfl, b⟩
                  rw [← HGD.out]
                  have Bw48 := Lib.hid (Bw47.out.trans (b.mono Bw47.out.size))
                  have HR1' := Lib.hid (HR1.out.below b)
                  clear HR1
                  have HR1 := HR1'
                  clear HR1'
                  clear b
                  go_wp2_with fail
                  refine (specAreApprovals_any A1 xs.length c1 xs _ rfl HR1.out (by omega) hW1.out hC1.out).mono ?_
                  rintro e w49 ⟨rfl, b⟩
                  rw [← HGD.out]
                  have Bw49 := Lib.hid (Bw48.out.trans (b.mono Bw48.out.size))
                  have HR1' := Lib.hid (HR1.out.below b)
                  clear HR1
                  have HR1 := HR1'
                  clear HR1'
                  clear b
                  go_wp2
                  go_ret
                  exact ⟨by first | rfl | simp, Bw49.out⟩
              · obtain rfl : t = us.length := by omega
                have BwO := Lib.hid (Bw40.out.trans (HBW.out.mono Bw40.out.size))
                have HR1' := Lib.hid (HR1.out.below HBW.out)
                clear HR1
                have HR1 := HR1'
                clear HR1'
                as_aux_lemma =>
                  go_wp2_with fail
                  refine (D3.out _ (HY.out.below BwO.out)).mono ?_
                  rintro e w50 ⟨v10, qs, it10, w10d, rfl, hl, b⟩
                  have Bw50 := Lib.hid (BwO.out.trans (b.mono BwO.out.size))
                  have HR1' := Lib.hid (HR1.out.below b)
                  clear HR1
                  have HR1 := HR1'
                  clear HR1'
                  obtain ⟨A10, c10, rfl, r10, hp10, hq10⟩ := hl.form
                  have hl10 := hl.len
                  have hw10 := Lib.hid hl.ds
                  have HR10 := Lib.hid r10
                  clear r10 hl b
                  have hW10 : Hid (∀ x ∈ qs, smA x) := Lib.hid (fun x hx => (hw10.out x hx).sm)
                  have HD10 := hw10
                  clear hw10
                  have hC10 := Lib.hid (And.intro hp10 hq10)
                  clear hp10 hq10
                  obtain ⟨who, h_who⟩ : ∃ who, who = whV qs it10 w10d := ⟨_, rfl⟩
                  have HWH := Lib.hid h_who
                  clear h_who
                  obtain ⟨told, h_told⟩ : ∃ told, told = whB qs it10 w10d := ⟨_, rfl⟩
                  have HTO := Lib.hid h_told
                  clear h_told
                  have hww : (who.toList == who.toList) = true := by simp
                  go_wp2_with fail
                  refine (implWhereIs_any A10 qs.length c10 qs it10 w10d _ rfl HR10.out (by omega) hW10.out hC10.out).mono ?_
                  rintro e w51 ⟨rfl, b⟩
                  rw [← HWH.out, ← HTO.out]
                  have Bw51 := Lib.hid (Bw50.out.trans (b.mono Bw50.out.size))
                  have HR1' := Lib.hid (HR1.out.below b)
                  clear HR1
                  have HR1 := HR1'
                  clear HR1'
                  have HR10' := Lib.hid (HR10.out.below b)
                  clear HR10
                  have HR10 := HR10'
                  clear HR10'
                  clear b
                  go_wp2_with fail
                  refine (specWhereIs_any A10 qs.length c10 qs it10 w10d _ rfl HR10.out (by omega) hW10.out hC10.out).mono ?_
                  rintro e w52 ⟨rfl, b⟩
                  rw [← HWH.out, ← HTO.out]
                  have Bw52 := Lib.hid (Bw51.out.trans (b.mono Bw51.out.size))
                  have HR1' := Lib.hid (HR1.out.below b)
                  clear HR1
                  have HR1 := HR1'
                  clear HR1'
                  clear b
                  go_wp2_with fail
                  refine (D4.out _ (HY.out.below Bw52.out)).mono ?_
                  rintro e w53 ⟨v11, ps, on11, rfl, hl, b⟩
                  have Bw53 := Lib.hid (Bw52.out.trans (b.mono Bw52.out.size))
                  have HR1' := Lib.hid (HR1.out.below b)
                  clear HR1
                  have HR1 := HR1'
                  clear HR1'
                  obtain ⟨A11, c11, rfl, r11, hp11, hq11⟩ := hl.form
                  have hl11 := hl.len
                  have hw11 := Lib.hid hl.ds
                  have HR11 := Lib.hid r11
                  clear r11 hl b
                  have hW11 : Hid (∀ x ∈ ps, smA x) := Lib.hid (fun x hx => (hw11.out x hx).sm)
                  have HD11 := hw11
                  clear hw11
                  have hC11 := Lib.hid (And.intro hp11 hq11)
                  clear hp11 hq11
                  obtain ⟨kn, h_kn⟩ : ∃ kn, kn = ioB ps on11 := ⟨_, rfl⟩
                  have HKN := Lib.hid h_kn
                  clear h_kn
                  obtain ⟨O, h_O⟩ : ∃ O, O = ioV ps on11 := ⟨_, rfl⟩
                  have HOO := Lib.hid h_O
                  clear h_O
                  have hOn : O.length ≤ 1048576 := by rw [HOO.out]; exact ioV_len ps on11
                  go_wp2_with fail
                  refine (implItemsOut_any A11 ps.length c11 ps on11 _ rfl HR11.out (by omega) hW11.out hC11.out).mono ?_
                  rintro e w54 ⟨v12, rfl, o, b⟩
                  rw [← HKN.out]
                  rw [← HOO.out] at o
                  obtain ⟨A12, c12, rfl⟩ := own_form o
                  have Bw54 := Lib.hid (Bw53.out.trans (b.mono Bw53.out.size))
                  have HR1' := Lib.hid (HR1.out.below b)
                  clear HR1
                  have HR1 := HR1'
                  clear HR1'
                  have HR11' := Lib.hid (HR11.out.below b)
                  clear HR11
                  have HR11 := HR11'
                  clear HR11'
                  have HR12 := Lib.hid (Rd.of_own o)
                  clear o b
                  go_wp2_with fail
                  refine (specItemsOut_any A11 ps.length c11 ps on11 _ rfl HR11.out (by omega) hW11.out hC11.out).mono ?_
                  rintro e w55 ⟨v13, rfl, o, b⟩
                  rw [← HKN.out]
                  rw [← HOO.out] at o
                  obtain ⟨A13, c13, rfl⟩ := own_form o
                  have Bw55 := Lib.hid (Bw54.out.trans (b.mono Bw54.out.size))
                  have HR1' := Lib.hid (HR1.out.below b)
                  clear HR1
                  have HR1 := HR1'
                  clear HR1'
                  have HR11' := Lib.hid (HR11.out.below b)
                  clear HR11
                  have HR11 := HR11'
                  clear HR11'
                  have HR12' := Lib.hid (HR12.out.below b)
                  clear HR12
                  have HR12 := HR12'
                  clear HR12'
                  have HR13 := Lib.hid (Rd.of_own o)
                  clear o b
                  go_wp2_with fail
                  refine (rInts_same _ _ _ _ _ O _ rfl HR12.out HR13.out hOn).mono ?_
                  rintro e w56 ⟨rfl, b⟩
                  have Bw56 := Lib.hid (Bw55.out.trans (b.mono Bw55.out.size))
                  have HR1' := Lib.hid (HR1.out.below b)
                  clear HR1
                  have HR1 := HR1'
                  clear HR1'
                  clear b
                  obtain ⟨gd, h_gd⟩ : ∃ gd, gd = goodA xs := ⟨_, rfl⟩
                  have HGD := Lib.hid h_gd
                  clear h_gd
                  go_wp2_with fail
                  refine (implAreApprovals_any A1 xs.length c1 xs _ rfl HR1.out (by omega) hW1.out hC1.out).mono ?_
                  rintro e w57 ⟨rfl, b⟩
                  rw [← HGD.out]
                  have Bw57 := Lib.hid (Bw56.out.trans (b.mono Bw56.out.size))
                  have HR1' := Lib.hid (HR1.out.below b)
                  clear HR1
                  have HR1 := HR1'
                  clear HR1'
                  clear b
                  go_wp2_with fail
                  refine (specAreApprovals_any A1 xs.length c1 xs _ rfl HR1.out (by omega) hW1.out hC1.out).mono ?_
                  rintro e w58 ⟨rfl, b⟩
                  rw [← HGD.out]
                  have Bw58 := Lib.hid (Bw57.out.trans (b.mono Bw57.out.size))
                  have HR1' := Lib.hid (HR1.out.below b)
                  clear HR1
                  have HR1 := HR1'
                  clear HR1'
                  clear b
                  go_wp2
                  go_ret
                  exact ⟨by first | rfl | simp, Bw58.out⟩
          | true =>
            go_wp2_with fail
            go_loopw [28, 29, 30, 31, 32, 33] (fun i _ _ _ _ _ wr => ∃ t : Nat, i = .int .i64 t ∧ t ≤ us.length ∧ Below w40.heap.size w40 wr) (fun i _ _ _ _ _ _ => us.length - (intOf i).toNat)
            case atStart => exact ⟨0, rfl, by omega, Below.refl _ _⟩
            case round =>
              obtain ⟨wO, hwO⟩ : ∃ x, x = wr := ⟨wr, rfl⟩
              subst hwO
              obtain ⟨t, rfl, ht, hbw⟩ := hrel
              have HBW := Lib.hid hbw
              have hsw := hbw.size
              clear hbw
              by_cases htl : t < us.length
              · have htl' : (t : Int) < (us.length : Int) := by omega
                obtain ⟨y, ey⟩ : ∃ y, us[t]? = some y := ⟨_, List.getElem?_eq_getElem htl⟩
                have ht0 : (0 : Int) ≤ (t : Int) := by omega
                have hym := List.mem_of_getElem? ey
                have hyn := (HD5.out y hym).2.1
                have hyc := (HD5.out y hym).1
                obtain ⟨gy, oy, By, cy, Dy, ey2, eA, hrow⟩ := (HR5.out.below HBW.out).at ey
                subst eA
                have HROW := Lib.hid hrow
                have HEY := Lib.hid ey
                clear hrow ey hym
                by_cases hid : y.id = x5
                · have hidn : (y.id != x5) = false := by simp [hid]
                  obtain ⟨f1, f2⟩ := back_facts HFI.out.symm HEY.out hid
                  rw [← HRV.out] at f1 f2
                  have F1 := Lib.hid f1
                  have F2 := Lib.hid f2
                  clear f1 f2 hid
                  obtain ⟨BY, h_BY⟩ : ∃ BY, BY = byV R y.client := ⟨_, rfl⟩
                  have HBY := Lib.hid h_BY
                  clear h_BY
                  rw [← HBY.out] at F2
                  have hBYn : BY.length ≤ 1048576 := by rw [HBY.out]; exact byV_len R y.client
                  have y0 := HROW.out.c0
                  have y1 := HROW.out.c1
                  have hgy := HROW.out.lt
                  have HRw := Lib.hid (HR8.out.below HBW.out)
                  have hyc2 : (y.client.size : Int) ≤ 1048576 := by omega
                  go_wp2_with fail
                  refine (implBoughtBy_any A8 R.length c8 R y.client _ rfl HRw.out hRn hWR.out hC8.out hyc2).mono ?_
                  rintro e wa ⟨va, rfl, o, b⟩
                  rw [F1.out]
                  rw [← HBY.out] at o
                  obtain ⟨Aa, ca, rfl⟩ := own_form o
                  have HBA := Lib.hid (HBW.out.trans (b.mono HBW.out.size))
                  have HIB := Lib.hid (Rd.of_own o)
                  have HROWA := Lib.hid (HROW.out.below b)
                  clear o b y0 y1 HRw HROW
                  have y3 := HROWA.out.c3
                  go_wp2_with fail
                  clear y3
                  go_loopw [31, 32, 33] (fun i _ _ wr => ∃ s : Nat, i = .int .i64 s ∧ s ≤ y.items.length ∧ Below wa.heap.size wa wr) (fun i _ _ _ => y.items.length - (intOf i).toNat)
                  case atStart => exact ⟨0, rfl, by omega, Below.refl _ _⟩
                  case round =>
                    obtain ⟨s, rfl, hs, hbx⟩ := hrel
                    have HBX := Lib.hid hbx
                    have HROWX := Lib.hid (HROWA.out.below hbx)
                    have HBZ := Lib.hid (HBA.out.trans (hbx.mono HBA.out.size))
                    clear hbx
                    have y3 := HROWX.out.c3
                    have hgy2 := HROWX.out.lt
                    by_cases hsl : s < y.items.length
                    · have hsl' : (s : Int) < (y.items.length : Int) := by omega
                      obtain ⟨z, ez⟩ : ∃ z, y.items[s]? = some z := ⟨_, List.getElem?_eq_getElem hsl⟩
                      obtain ⟨g1, g2, g3, g4⟩ := F2.out z (List.mem_of_getElem? ez)
                      have G1 := Lib.hid g1
                      have hs0 : (0 : Int) ≤ (s : Int) := by omega
                      obtain ⟨gz, oz, eB, hgz, cz⟩ := HROWX.out.rB.at1 ez
                      subst eB
                      have HRx := Lib.hid (HR8.out.below HBZ.out)
                      clear ez g1
                      cases hk : hasB ts z with
                      | true =>
                        rw [hk] at g2
                        simp only [if_true, if_false, Bool.false_eq_true] at g2
                        have G2 := Lib.hid g2
                        have G3 := Lib.hid (g3 hk)
                        have hcc : (y.client.toList == y.client.toList) = true := by simp
                        have HKT := Lib.hid hk
                        clear g2 g3 g4 hk
                        go_wp2_with fail
                        refine (implWhereIs_any A8 R.length c8 R z at5 _ rfl HRx.out hRn hWR.out hC8.out).mono ?_
                        rintro e wb ⟨rfl, b⟩
                        rw [G1.out, G2.out]
                        have cz2 := (b.cell (p := ⟨gz, oz + s, none⟩) hgz).trans cz
                        have hgz2 := Nat.lt_of_lt_of_le hgz b.size
                        have HROWB := Lib.hid (HROWX.out.below b)
                        have HBC := Lib.hid (HBX.out.trans (b.mono HBX.out.size))
                        have HBT := Lib.hid (HBZ.out.trans (b.mono HBZ.out.size))
                        clear b cz y3 HRx
                        have y1 := HROWB.out.c1
                        have y3 := HROWB.out.c3
                        have hgy3 := HROWB.out.lt
                        have HTT := Lib.hid (HT.out.below HBT.out)
                        have HII := Lib.hid (HIB.out.below HBC.out)
                        have CT := Lib.hid (fun w h => rHas_any A7 ts.length c7 ts z w rfl h (by omega))
                        rw [HKT.out] at CT
                        have CI := Lib.hid (fun w h => rHas_any Aa BY.length ca BY z w rfl h hBYn)
                        rw [G3.out] at CI
                        go_wp2_with fail
                        refine wp_region_lat wb.heap.size (by kernel_rfl) (by kernel_rfl) ?_
                        have LC := fun (u : Lat wb.heap.size wb) => u.cell
                        try dsimp only [List.append_eq, List.cons_append, List.nil_append]
                        repeat (go_big_quiet_step ((go_at_call 11; first | (with_reducible exact lat_same _ (CT.out _ (HTT.out.below (Lat.below _)))) | (with_reducible exact lat_same _ (CI.out _ (HII.out.below (Lat.below _)))))))
                        refine wpQuiet_nil ?_
                        intro wd hbd
                        clear LC
                        have HBF := Lib.hid (HBC.out.trans (hbd.mono HBC.out.size))
                        clear hbd
                        go_wp2
                        go_roundw
                        case rel => exact ⟨s + 1, by go_num, by omega, HBF.out⟩
                        case measure => simp [intOf]; omega
                      | false =>
                        rw [hk] at g2
                        simp only [if_true, if_false, Bool.false_eq_true] at g2
                        have G2 := Lib.hid g2
                        have hcc := (client_ne2 g4).1
                        have hcd := (client_ne2 g4).2
                        have HKT := Lib.hid hk
                        clear g2 g3 g4 hk
                        go_wp2_with fail
                        refine (implWhereIs_any A8 R.length c8 R z at5 _ rfl HRx.out hRn hWR.out hC8.out).mono ?_
                        rintro e wb ⟨rfl, b⟩
                        rw [G1.out, G2.out]
                        have cz2 := (b.cell (p := ⟨gz, oz + s, none⟩) hgz).trans cz
                        have hgz2 := Nat.lt_of_lt_of_le hgz b.size
                        have HROWB := Lib.hid (HROWX.out.below b)
                        have HBC := Lib.hid (HBX.out.trans (b.mono HBX.out.size))
                        have HBT := Lib.hid (HBZ.out.trans (b.mono HBZ.out.size))
                        clear b cz y3 HRx
                        have y1 := HROWB.out.c1
                        have y3 := HROWB.out.c3
                        have hgy3 := HROWB.out.lt
                        have HTT := Lib.hid (HT.out.below HBT.out)
                        have HII := Lib.hid (HIB.out.below HBC.out)
                        have CT := Lib.hid (fun w h => rHas_any A7 ts.length c7 ts z w rfl h (by omega))
                        rw [HKT.out] at CT
                        go_wp2_with fail
                        refine wp_region_lat wb.heap.size (by kernel_rfl) (by kernel_rfl) ?_
                        have LC := fun (u : Lat wb.heap.size wb) => u.cell
                        try dsimp only [List.append_eq, List.cons_append, List.nil_append]
                        repeat (go_big_quiet_step ((go_at_call 11; first | (with_reducible exact lat_same _ (CT.out _ (HTT.out.below (Lat.below _)))))))
                        refine wpQuiet_nil ?_
                        intro wd hbd
                        clear LC
                        have HBF := Lib.hid (HBC.out.trans (hbd.mono HBC.out.size))
                        clear hbd
                        go_wp2
                        go_roundw
                        case rel => exact ⟨s + 1, by go_num, by omega, HBF.out⟩
                        case measure => simp [intOf]; omega
                    · obtain rfl : s = y.items.length := by omega
                      clear HROWX
                      go_wp2
                      go_roundw
                      case rel => exact ⟨t + 1, by go_num, by omega, HBZ.out⟩
                      case measure => simp [intOf]; omega
                · have hidn : (y.id != x5) = true := by simp [hid]
                  have y0 := HROW.out.c0
                  have hgy := HROW.out.lt
                  clear HROW
                  go_wp2
                  go_roundw
                  case rel => exact ⟨t + 1, by go_num, by omega, HBW.out⟩
                  case measure => simp [intOf]; omega
              · obtain rfl : t = us.length := by omega
                have BwO := Lib.hid (Bw40.out.trans (HBW.out.mono Bw40.out.size))
                have HR1' := Lib.hid (HR1.out.below HBW.out)
                clear HR1
                have HR1 := HR1'
                clear HR1'
                as_aux_lemma =>
                  go_wp2_with fail
                  refine (D3.out _ (HY.out.below BwO.out)).mono ?_
                  rintro e w59 ⟨v10, qs, it10, w10d, rfl, hl, b⟩
                  have Bw59 := Lib.hid (BwO.out.trans (b.mono BwO.out.size))
                  have HR1' := Lib.hid (HR1.out.below b)
                  clear HR1
                  have HR1 := HR1'
                  clear HR1'
                  obtain ⟨A10, c10, rfl, r10, hp10, hq10⟩ := hl.form
                  have hl10 := hl.len
                  have hw10 := Lib.hid hl.ds
                  have HR10 := Lib.hid r10
                  clear r10 hl b
                  have hW10 : Hid (∀ x ∈ qs, smA x) := Lib.hid (fun x hx => (hw10.out x hx).sm)
                  have HD10 := hw10
                  clear hw10
                  have hC10 := Lib.hid (And.intro hp10 hq10)
                  clear hp10 hq10
                  obtain ⟨who, h_who⟩ : ∃ who, who = whV qs it10 w10d := ⟨_, rfl⟩
                  have HWH := Lib.hid h_who
                  clear h_who
                  obtain ⟨told, h_told⟩ : ∃ told, told = whB qs it10 w10d := ⟨_, rfl⟩
                  have HTO := Lib.hid h_told
                  clear h_told
                  have hww : (who.toList == who.toList) = true := by simp
                  go_wp2_with fail
                  refine (implWhereIs_any A10 qs.length c10 qs it10 w10d _ rfl HR10.out (by omega) hW10.out hC10.out).mono ?_
                  rintro e w60 ⟨rfl, b⟩
                  rw [← HWH.out, ← HTO.out]
                  have Bw60 := Lib.hid (Bw59.out.trans (b.mono Bw59.out.size))
                  have HR1' := Lib.hid (HR1.out.below b)
                  clear HR1
                  have HR1 := HR1'
                  clear HR1'
                  have HR10' := Lib.hid (HR10.out.below b)
                  clear HR10
                  have HR10 := HR10'
                  clear HR10'
                  clear b
                  go_wp2_with fail
                  refine (specWhereIs_any A10 qs.length c10 qs it10 w10d _ rfl HR10.out (by omega) hW10.out hC10.out).mono ?_
                  rintro e w61 ⟨rfl, b⟩
                  rw [← HWH.out, ← HTO.out]
                  have Bw61 := Lib.hid (Bw60.out.trans (b.mono Bw60.out.size))
                  have HR1' := Lib.hid (HR1.out.below b)
                  clear HR1
                  have HR1 := HR1'
                  clear HR1'
                  clear b
                  go_wp2_with fail
                  refine (D4.out _ (HY.out.below Bw61.out)).mono ?_
                  rintro e w62 ⟨v11, ps, on11, rfl, hl, b⟩
                  have Bw62 := Lib.hid (Bw61.out.trans (b.mono Bw61.out.size))
                  have HR1' := Lib.hid (HR1.out.below b)
                  clear HR1
                  have HR1 := HR1'
                  clear HR1'
                  obtain ⟨A11, c11, rfl, r11, hp11, hq11⟩ := hl.form
                  have hl11 := hl.len
                  have hw11 := Lib.hid hl.ds
                  have HR11 := Lib.hid r11
                  clear r11 hl b
                  have hW11 : Hid (∀ x ∈ ps, smA x) := Lib.hid (fun x hx => (hw11.out x hx).sm)
                  have HD11 := hw11
                  clear hw11
                  have hC11 := Lib.hid (And.intro hp11 hq11)
                  clear hp11 hq11
                  obtain ⟨kn, h_kn⟩ : ∃ kn, kn = ioB ps on11 := ⟨_, rfl⟩
                  have HKN := Lib.hid h_kn
                  clear h_kn
                  obtain ⟨O, h_O⟩ : ∃ O, O = ioV ps on11 := ⟨_, rfl⟩
                  have HOO := Lib.hid h_O
                  clear h_O
                  have hOn : O.length ≤ 1048576 := by rw [HOO.out]; exact ioV_len ps on11
                  go_wp2_with fail
                  refine (implItemsOut_any A11 ps.length c11 ps on11 _ rfl HR11.out (by omega) hW11.out hC11.out).mono ?_
                  rintro e w63 ⟨v12, rfl, o, b⟩
                  rw [← HKN.out]
                  rw [← HOO.out] at o
                  obtain ⟨A12, c12, rfl⟩ := own_form o
                  have Bw63 := Lib.hid (Bw62.out.trans (b.mono Bw62.out.size))
                  have HR1' := Lib.hid (HR1.out.below b)
                  clear HR1
                  have HR1 := HR1'
                  clear HR1'
                  have HR11' := Lib.hid (HR11.out.below b)
                  clear HR11
                  have HR11 := HR11'
                  clear HR11'
                  have HR12 := Lib.hid (Rd.of_own o)
                  clear o b
                  go_wp2_with fail
                  refine (specItemsOut_any A11 ps.length c11 ps on11 _ rfl HR11.out (by omega) hW11.out hC11.out).mono ?_
                  rintro e w64 ⟨v13, rfl, o, b⟩
                  rw [← HKN.out]
                  rw [← HOO.out] at o
                  obtain ⟨A13, c13, rfl⟩ := own_form o
                  have Bw64 := Lib.hid (Bw63.out.trans (b.mono Bw63.out.size))
                  have HR1' := Lib.hid (HR1.out.below b)
                  clear HR1
                  have HR1 := HR1'
                  clear HR1'
                  have HR11' := Lib.hid (HR11.out.below b)
                  clear HR11
                  have HR11 := HR11'
                  clear HR11'
                  have HR12' := Lib.hid (HR12.out.below b)
                  clear HR12
                  have HR12 := HR12'
                  clear HR12'
                  have HR13 := Lib.hid (Rd.of_own o)
                  clear o b
                  go_wp2_with fail
                  refine (rInts_same _ _ _ _ _ O _ rfl HR12.out HR13.out hOn).mono ?_
                  rintro e w65 ⟨rfl, b⟩
                  have Bw65 := Lib.hid (Bw64.out.trans (b.mono Bw64.out.size))
                  have HR1' := Lib.hid (HR1.out.below b)
                  clear HR1
                  have HR1 := HR1'
                  clear HR1'
                  clear b
                  obtain ⟨gd, h_gd⟩ : ∃ gd, gd = goodA xs := ⟨_, rfl⟩
                  have HGD := Lib.hid h_gd
                  clear h_gd
                  go_wp2_with fail
                  refine (implAreApprovals_any A1 xs.length c1 xs _ rfl HR1.out (by omega) hW1.out hC1.out).mono ?_
                  rintro e w66 ⟨rfl, b⟩
                  rw [← HGD.out]
                  have Bw66 := Lib.hid (Bw65.out.trans (b.mono Bw65.out.size))
                  have HR1' := Lib.hid (HR1.out.below b)
                  clear HR1
                  have HR1 := HR1'
                  clear HR1'
                  clear b
                  go_wp2_with fail
                  refine (specAreApprovals_any A1 xs.length c1 xs _ rfl HR1.out (by omega) hW1.out hC1.out).mono ?_
                  rintro e w67 ⟨rfl, b⟩
                  rw [← HGD.out]
                  have Bw67 := Lib.hid (Bw66.out.trans (b.mono Bw66.out.size))
                  have HR1' := Lib.hid (HR1.out.below b)
                  clear HR1
                  have HR1 := HR1'
                  clear HR1'
                  clear b
                  go_wp2
                  go_ret
                  exact ⟨by first | rfl | simp, Bw67.out⟩

theorem own : ownKnob Try.prog.godebug = none := by kernel_rfl
theorem laidOut : laidOutB Try.prog = true := by kernel_rfl
set_option maxRecDepth 100000 in
theorem lifted (os : Os) (started : os.Started) (H : Type) (enc : TypeId × Value → H) :
    ReturnsInHanded {} Try.checked os 3 .any (Rows.fnApprovalsSpec.pre6 enc Try.prog Try.f3 Rows.fnApprovalsRow.domain false) (Rows.fnApprovalsSpec.post enc Try.prog Try.f3 false true false false) := by
  refine returnsInHanded_of_change (C := Try.checked) own started (by kernel_rfl) Try.func3
    (ChangeSpec.witness6 (enc := enc) (C := Try.checked) false ⟨#[], #[.slice none 0 0], []⟩ 8 (by kernel_rfl) (by kernel_rfl) (by kernel_rfl) (by kernel_rfl)) ?_
  intro W base args ds gs before hval0 hW hcnd _
  have hval : ∀ (j : Nat) t v, Try.f3.params[j]? = some t → args[j]? = some v → Value.okWide Try.prog W .any base t v := hval0
  have hW' := hW
  obtain ⟨p, q, hA0, hV, rfl, hfz, hnd⟩ := hW
  have hA : DataW.TrodAll enc Try.prog W 0 (fun _ => true) true Try.f3.params.toList args.toList ds p := hA0
  rw [Try.params3] at hA hval
  obtain ⟨v0, vs0, d0, ds0, p0, q0, hargs, rfl, rfl, h0, r0⟩ := trodAll_cons hA
  obtain ⟨rfl, rfl, rfl⟩ := trodAll_nil r0
  obtain rfl : args = #[v0] := by cases args; simp_all
  obtain ⟨rfl, rfl⟩ := trodVars_none hV
  obtain ⟨a0, len0, cap0, rfl⟩ := okWide_slice Try.underlying22 (hval 0 22 v0 rfl rfl)
  have k0 := h0
  have lt0 : ∀ x ∈ p0, x.block < W.heap.size := by obtain ⟨m, hm⟩ := k0; exact DataW.trod_lt m _ _ _ hm
  obtain ⟨zs, hl0, hr0, hm0, hb0⟩ := openU Try.underlying22 Try.underlying5 (by kernel_rfl) h0
  clear hA0 hval0
  refine (walk a0 len0 cap0 zs W hl0 hr0 hm0 hb0).mono fun e W' ⟨he, bel⟩ => ?_
  subst he
  exact ⟨_, rfl, _, _, _, [], _, [], hW', trodAll_mk1 (shut_bool Try.underlying4 _), (trodAll_cons_mk (Below.trod laidOut (by kernel_rfl) (of_decide_eq_true (by kernel_rfl)) k0 bel lt0) trodAll_mk0), rfl, bel.frame _, fun h => by cases h⟩

theorem over : Rows.fnApprovalsRow.holds Try.pinned (OpenSpec.ofChange Rows.fnApprovalsSpec) :=
  OpenClaim.holds_of_wide 3 Try.f3 rfl rfl rfl rfl rfl rfl rfl ⟨rfl, rfl, rfl, rfl, rfl⟩ rfl rfl rfl rfl rfl (by kernel_rfl) Try.func3 (by kernel_rfl)
    (of_decide_eq_true (by kernel_rfl)) (by unfold Func.isWrapper; first | (rw [if_pos (by decide +kernel)]; kernel_rfl) | (rw [if_neg (by decide +kernel)]; exact ⟨rfl, rfl⟩))
    (fun os started H enc _ => lifted os started H enc)

theorem proved : Rows.FnApprovalsSaid := over
#print axioms proved
end Go.Proofs.Ytogjcnfhfpgbfaa.lwFnApprovals
