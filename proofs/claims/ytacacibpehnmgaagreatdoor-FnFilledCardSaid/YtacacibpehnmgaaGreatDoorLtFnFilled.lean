/- The law FnFilled returns true for every input: a filled book has all stamps but those that found no room, a straightened one has just the same stamps, strips that are swapped twice are as before, a tight strip has room, and the texts agree; no condition but the card's own: the listed tables of the library hold what their text lays. -/
import Derived.Test.YtacacibpehnmgaaGreatDoorDrB7
import Derived.Test.YtacacibpehnmgaaGreatDoorBkF
import Derived.Test.YtacacibpehnmgaaGreatDoorStoP
import Derived.Test.YtacacibpehnmgaaGreatDoorTBkS
import Derived.Test.YtacacibpehnmgaaGreatDoorTBkI
import Derived.Test.YtacacibpehnmgaaGreatDoorDLaidF
namespace Go.Proofs.YtacacibpehnmgaaGreatDoor.ltFnFilled
set_option linter.unusedSimpArgs false
open Go.ChangeShapes Go.WideShapes Go.ChangeAt Go.RowKit
set_option linter.unusedVariables false

set_option maxRecDepth 20000 in
set_option maxHeartbeats 16000000 in
theorem walk (B : Option Addr) (n c : Nat) (zs : List Int) (w : World) (hn : zs.length = n) (hB : Rd w B (cellsU zs)) (hm : n ≤ maxLen) (hb : ∀ z ∈ zs, 0 ≤ z ∧ z ≤ 255)
    (ht : ∀ w', Below w.heap.size w w' → Lib.TabIs Tryz.prog w' "internal/strconv.uint64pow10" .u64 Lib.pow10Tab) :
    Calls Tryz.prog 3 #[.slice B n c] w (Ret (.bool true) w) := by
  have HT := Lib.hid ht
  clear ht
  have CB := Lib.hid (fun w => rBig_any B n c w hm)
  by_cases hbig : (65536 : Int) < n
  · rw [show decide ((65536 : Int) < n) = true by simp; omega] at CB
    clear hbig hn
    go_enter Tryz.func3, Tryz.ntmps3
    go_wp2_with fail
    refine (CB.out _).mono ?_
    rintro e w1 ⟨rfl, rfl⟩
    go_wp2
    go_ret
    exact ⟨rfl, Below.refl _ _⟩
  rw [show decide ((65536 : Int) < n) = false by simp; omega] at CB
  have HY : Hid (Bytes w B zs) := Lib.hid ⟨hB, hb, by omega⟩
  have HN := Lib.hid hn
  clear hbig hn hB hm hb
  have D1 := Lib.hid (fun w h => drawFillBook_any B n c zs w HN.out h)
  have D2 := Lib.hid (fun w h => drawStraightenBook_any B n c zs w HN.out h)
  have D3 := Lib.hid (fun w h => drawSwapStrips_any B n c zs w HN.out h)
  have D4 := Lib.hid (fun w h => drawTightStrip_any B n c zs w HN.out h)
  go_enter Tryz.func3, Tryz.ntmps3
  go_wp2_with fail
  refine (CB.out _).mono ?_
  rintro e w0 ⟨rfl, rfl⟩
  have HB0 := Lib.hid (Below.refl w.heap.size w)
  go_wp2_with fail
  refine (D1.out _ (HY.out)).mono ?_
  rintro e w1 ⟨v1, xs, Aw, cw, ws, rfl, hl, hr, hwl, b⟩
  have Bw1 := Lib.hid (HB0.out.trans (b.mono HB0.out.size))
  have HRW := Lib.hid hr
  clear hr
  obtain ⟨A1, c1, rfl, r1, -, -⟩ := hl.form
  have hl1 := hl.len
  have hw1 := Lib.hid hl.wid
  have HR1 := Lib.hid r1
  clear r1 hl b
  have hW1 : Hid (∀ x ∈ xs, x.ws.length ≤ 1048576) := Lib.hid (fun x hx => by have := hw1.out x hx; omega)
  clear hw1
  obtain ⟨ok, h_ok⟩ : ∃ ok, ok = fbB xs ws := ⟨_, rfl⟩
  have HOK := Lib.hid h_ok
  clear h_ok
  obtain ⟨S, h_S⟩ : ∃ S, S = fbV xs ws := ⟨_, rfl⟩
  have HS := Lib.hid h_S
  clear h_S
  obtain ⟨L, h_L⟩ : ∃ L, L = fbN xs ws := ⟨_, rfl⟩
  have HL := Lib.hid h_L
  clear h_L
  have HSM : Hid (smallB S) := Lib.hid (by rw [HS.out]; exact fb_small xs ws)
  have hSn := smallB_n HSM.out
  have hWS := Lib.hid (smallB_w HSM.out)
  have hLn : L.length ≤ 20 := by rw [HL.out]; exact fbN_len xs ws
  go_wp2_with fail
  refine (implFillBook_any A1 xs.length c1 xs Aw ws.length cw ws _ rfl HR1.out (by omega) hW1.out rfl HRW.out (by omega)).mono ?_
  rintro e w2 ⟨v2, vs2, n2, rfl, o, oN, -, b⟩
  rw [← HOK.out]
  rw [← HS.out] at o
  rw [← HL.out] at oN
  obtain ⟨A2, c2, rfl⟩ := own_form o.2.1
  obtain ⟨AN2, cN2, rfl⟩ := own_form oN
  have Bw2 := Lib.hid (Bw1.out.trans (b.mono Bw1.out.size))
  have HR1' := Lib.hid (HR1.out.below b)
  clear HR1
  have HR1 := HR1'
  clear HR1'
  have HRW' := Lib.hid (HRW.out.below b)
  clear HRW
  have HRW := HRW'
  clear HRW'
  have HR2 := Lib.hid o.rd2
  have HN2 := Lib.hid (Rd.of_own oN)
  clear o oN b
  go_wp2_with fail
  refine (specFillBook_any A1 xs.length c1 xs Aw ws.length cw ws _ rfl HR1.out (by omega) hW1.out rfl HRW.out (by omega)).mono ?_
  rintro e w3 ⟨v3, vs3, n3, rfl, o, oN, -, b⟩
  rw [← HOK.out]
  rw [← HS.out] at o
  rw [← HL.out] at oN
  obtain ⟨A3, c3, rfl⟩ := own_form o.2.1
  obtain ⟨AN3, cN3, rfl⟩ := own_form oN
  have Bw3 := Lib.hid (Bw2.out.trans (b.mono Bw2.out.size))
  have HR1' := Lib.hid (HR1.out.below b)
  clear HR1
  have HR1 := HR1'
  clear HR1'
  have HRW' := Lib.hid (HRW.out.below b)
  clear HRW
  have HRW := HRW'
  clear HRW'
  have HR2' := Lib.hid (HR2.out.below b)
  clear HR2
  have HR2 := HR2'
  clear HR2'
  have HN2' := Lib.hid (HN2.out.below b)
  clear HN2
  have HN2 := HN2'
  clear HN2'
  have HR3 := Lib.hid o.rd2
  have HN3 := Lib.hid (Rd.of_own oN)
  clear o oN b
  go_wp2_with fail
  refine (rInts_same _ _ _ _ _ L _ rfl HN2.out HN3.out (by omega)).mono ?_
  rintro e w4 ⟨rfl, b⟩
  have Bw4 := Lib.hid (Bw3.out.trans (b.mono Bw3.out.size))
  have HR1' := Lib.hid (HR1.out.below b)
  clear HR1
  have HR1 := HR1'
  clear HR1'
  have HRW' := Lib.hid (HRW.out.below b)
  clear HRW
  have HRW := HRW'
  clear HRW'
  have HR2' := Lib.hid (HR2.out.below b)
  clear HR2
  have HR2 := HR2'
  clear HR2'
  have HN2' := Lib.hid (HN2.out.below b)
  clear HN2
  have HN2 := HN2'
  clear HN2'
  have HR3' := Lib.hid (HR3.out.below b)
  clear HR3
  have HR3 := HR3'
  clear HR3'
  clear b
  go_wp2_with fail
  refine (rBooks_same _ _ _ _ _ S _ rfl HR2.out HR3.out hSn hWS.out).mono ?_
  rintro e w5 ⟨rfl, b⟩
  have Bw5 := Lib.hid (Bw4.out.trans (b.mono Bw4.out.size))
  have HR1' := Lib.hid (HR1.out.below b)
  clear HR1
  have HR1 := HR1'
  clear HR1'
  have HRW' := Lib.hid (HRW.out.below b)
  clear HRW
  have HRW := HRW'
  clear HRW'
  have HR2' := Lib.hid (HR2.out.below b)
  clear HR2
  have HR2 := HR2'
  clear HR2'
  have HN2' := Lib.hid (HN2.out.below b)
  clear HN2
  have HN2 := HN2'
  clear HN2'
  clear b
  cases ok with
  | false =>
    go_wp2_with fail
    refine (D2.out _ (HY.out.below Bw5.out)).mono ?_
    rintro e w6 ⟨v4, us, rfl, hl, b⟩
    have Bw6 := Lib.hid (Bw5.out.trans (b.mono Bw5.out.size))
    obtain ⟨A4, c4, rfl, r4, -, -⟩ := hl.form
    have hl4 := hl.len
    have hw4 := Lib.hid hl.wid
    have HR4 := Lib.hid r4
    clear r4 hl b
    have hW4 : Hid (∀ x ∈ us, x.ws.length ≤ 1048576) := Lib.hid (fun x hx => by have := hw4.out x hx; omega)
    clear hw4
    obtain ⟨fine, h_fine⟩ : ∃ fine, fine = sbB us := ⟨_, rfl⟩
    have HFI := Lib.hid h_fine
    clear h_fine
    obtain ⟨E, h_E⟩ : ∃ E, E = sbV us := ⟨_, rfl⟩
    have HE := Lib.hid h_E
    clear h_E
    have HES : Hid (smallB E) := Lib.hid (by rw [HE.out]; exact sb_small us)
    have hEn := smallB_n HES.out
    have hWE := Lib.hid (smallB_w HES.out)
    go_wp2_with fail
    refine (implStraightenBook_any A4 us.length c4 us _ rfl HR4.out (by omega) hW4.out).mono ?_
    rintro e w7 ⟨v5, vs5, rfl, o, b⟩
    rw [← HFI.out]
    rw [← HE.out] at o
    obtain ⟨A5, c5, rfl⟩ := own_form o.2.1
    have Bw7 := Lib.hid (Bw6.out.trans (b.mono Bw6.out.size))
    have HR4' := Lib.hid (HR4.out.below b)
    clear HR4
    have HR4 := HR4'
    clear HR4'
    have HR5 := Lib.hid o.rd2
    clear o b
    go_wp2_with fail
    refine (specStraightenBook_any A4 us.length c4 us _ rfl HR4.out (by omega) hW4.out).mono ?_
    rintro e w8 ⟨v6, vs6, rfl, o, b⟩
    rw [← HFI.out]
    rw [← HE.out] at o
    obtain ⟨A6, c6, rfl⟩ := own_form o.2.1
    have Bw8 := Lib.hid (Bw7.out.trans (b.mono Bw7.out.size))
    have HR4' := Lib.hid (HR4.out.below b)
    clear HR4
    have HR4 := HR4'
    clear HR4'
    have HR5' := Lib.hid (HR5.out.below b)
    clear HR5
    have HR5 := HR5'
    clear HR5'
    have HR6 := Lib.hid o.rd2
    clear o b
    go_wp2_with fail
    refine (rBooks_same _ _ _ _ _ E _ rfl HR5.out HR6.out hEn hWE.out).mono ?_
    rintro e w9 ⟨rfl, b⟩
    have Bw9 := Lib.hid (Bw8.out.trans (b.mono Bw8.out.size))
    have HR4' := Lib.hid (HR4.out.below b)
    clear HR4
    have HR4 := HR4'
    clear HR4'
    have HR5' := Lib.hid (HR5.out.below b)
    clear HR5
    have HR5 := HR5'
    clear HR5'
    clear b
    cases fine with
    | false =>
      go_wp2_with fail
      refine (D3.out _ (HY.out.below Bw9.out)).mono ?_
      rintro e w10 ⟨v7, qs, x7, y7, rfl, hl, b⟩
      have Bw10 := Lib.hid (Bw9.out.trans (b.mono Bw9.out.size))
      have HR4' := Lib.hid (HR4.out.below b)
      clear HR4
      have HR4 := HR4'
      clear HR4'
      obtain ⟨A7, c7, rfl, r7, -, -⟩ := hl.form
      have hl7 := hl.len
      have hw7 := Lib.hid hl.wid
      have HR7 := Lib.hid r7
      clear r7 hl b
      have hW7 : Hid (∀ x ∈ qs, x.ws.length ≤ 1048576) := Lib.hid (fun x hx => by have := hw7.out x hx; omega)
      clear hw7
      obtain ⟨told, h_told⟩ : ∃ told, told = swB qs x7 y7 := ⟨_, rfl⟩
      have HTD := Lib.hid h_told
      clear h_told
      obtain ⟨R, h_R⟩ : ∃ R, R = swV qs x7 y7 := ⟨_, rfl⟩
      have HRV := Lib.hid h_R
      clear h_R
      have HRS : Hid (smallB R) := Lib.hid (by rw [HRV.out]; exact sw_small qs x7 y7)
      have hRn := smallB_n HRS.out
      have hWR := Lib.hid (smallB_w HRS.out)
      go_wp2_with fail
      refine (implSwapStrips_any A7 qs.length c7 qs x7 y7 _ rfl HR7.out (by omega) hW7.out).mono ?_
      rintro e w11 ⟨v8, vs8, rfl, o, b⟩
      rw [← HTD.out]
      rw [← HRV.out] at o
      obtain ⟨A8, c8, rfl⟩ := own_form o.2.1
      have Bw11 := Lib.hid (Bw10.out.trans (b.mono Bw10.out.size))
      have HR4' := Lib.hid (HR4.out.below b)
      clear HR4
      have HR4 := HR4'
      clear HR4'
      have HR7' := Lib.hid (HR7.out.below b)
      clear HR7
      have HR7 := HR7'
      clear HR7'
      have HR8 := Lib.hid o.rd2
      clear o b
      go_wp2_with fail
      refine (specSwapStrips_any A7 qs.length c7 qs x7 y7 _ rfl HR7.out (by omega) hW7.out).mono ?_
      rintro e w12 ⟨v9, vs9, rfl, o, b⟩
      rw [← HTD.out]
      rw [← HRV.out] at o
      obtain ⟨A9, c9, rfl⟩ := own_form o.2.1
      have Bw12 := Lib.hid (Bw11.out.trans (b.mono Bw11.out.size))
      have HR4' := Lib.hid (HR4.out.below b)
      clear HR4
      have HR4 := HR4'
      clear HR4'
      have HR7' := Lib.hid (HR7.out.below b)
      clear HR7
      have HR7 := HR7'
      clear HR7'
      have HR8' := Lib.hid (HR8.out.below b)
      clear HR8
      have HR8 := HR8'
      clear HR8'
      have HR9 := Lib.hid o.rd2
      clear o b
      go_wp2_with fail
      refine (rBooks_same _ _ _ _ _ R _ rfl HR8.out HR9.out hRn hWR.out).mono ?_
      rintro e w13 ⟨rfl, b⟩
      have Bw13 := Lib.hid (Bw12.out.trans (b.mono Bw12.out.size))
      have HR4' := Lib.hid (HR4.out.below b)
      clear HR4
      have HR4 := HR4'
      clear HR4'
      have HR7' := Lib.hid (HR7.out.below b)
      clear HR7
      have HR7 := HR7'
      clear HR7'
      have HR8' := Lib.hid (HR8.out.below b)
      clear HR8
      have HR8 := HR8'
      clear HR8'
      clear b
      cases told with
      | false =>
        go_wp2_with fail
        refine (D4.out _ (HY.out.below Bw13.out)).mono ?_
        rintro e w14 ⟨v11, ps, z11, rfl, hl, b⟩
        have Bw14 := Lib.hid (Bw13.out.trans (b.mono Bw13.out.size))
        have HR4' := Lib.hid (HR4.out.below b)
        clear HR4
        have HR4 := HR4'
        clear HR4'
        obtain ⟨A11, c11, rfl, r11, -, -⟩ := hl.form
        have hl11 := hl.len
        have hw11 := Lib.hid hl.wid
        have HR11 := Lib.hid r11
        clear r11 hl b
        have hW11 : Hid (∀ x ∈ ps, x.ws.length ≤ 1048576) := Lib.hid (fun x hx => by have := hw11.out x hx; omega)
        clear hw11
        obtain ⟨d11, h_d11⟩ : ∃ d11, d11 = tsV ps z11 := ⟨_, rfl⟩
        have HDV := Lib.hid h_d11
        clear h_d11
        obtain ⟨kn, h_kn⟩ : ∃ kn, kn = tsB ps z11 := ⟨_, rfl⟩
        have HKN := Lib.hid h_kn
        clear h_kn
        have hdd11 : (d11 != d11) = false := by simp
        go_wp2_with fail
        refine (implTightStrip_any A11 ps.length c11 ps z11 _ rfl HR11.out (by omega) hW11.out).mono ?_
        rintro e w15 ⟨rfl, b⟩
        rw [← HDV.out, ← HKN.out]
        have Bw15 := Lib.hid (Bw14.out.trans (b.mono Bw14.out.size))
        have HR4' := Lib.hid (HR4.out.below b)
        clear HR4
        have HR4 := HR4'
        clear HR4'
        have HR11' := Lib.hid (HR11.out.below b)
        clear HR11
        have HR11 := HR11'
        clear HR11'
        clear b
        go_wp2_with fail
        refine (specTightStrip_any A11 ps.length c11 ps z11 _ rfl HR11.out (by omega) hW11.out).mono ?_
        rintro e w16 ⟨rfl, b⟩
        rw [← HDV.out, ← HKN.out]
        have Bw16 := Lib.hid (Bw15.out.trans (b.mono Bw15.out.size))
        have HR4' := Lib.hid (HR4.out.below b)
        clear HR4
        have HR4 := HR4'
        clear HR4'
        have HR11' := Lib.hid (HR11.out.below b)
        clear HR11
        have HR11 := HR11'
        clear HR11'
        clear b
        cases kn with
        | false =>
          obtain ⟨sx, h_sx⟩ : ∃ sx, sx = bkV us := ⟨_, rfl⟩
          have HSX := Lib.hid h_sx
          clear h_sx
          obtain ⟨gd, h_gd⟩ : ∃ gd, gd = bookB us := ⟨_, rfl⟩
          have HGD := Lib.hid h_gd
          clear h_gd
          go_wp2_with fail
          refine (implBookText_any A4 us.length c4 us _ rfl HR4.out (by omega) hW4.out (fun w' h => HT.out w' (Bw16.out.trans (h.mono Bw16.out.size)))).mono ?_
          rintro e w17 ⟨rfl, b⟩
          rw [← HSX.out, ← HGD.out]
          have Bw17 := Lib.hid (Bw16.out.trans (b.mono Bw16.out.size))
          have HR4' := Lib.hid (HR4.out.below b)
          clear HR4
          have HR4 := HR4'
          clear HR4'
          clear b
          go_wp2_with fail
          refine (specBookText_any A4 us.length c4 us _ rfl HR4.out (by omega) hW4.out).mono ?_
          rintro e w18 ⟨rfl, b⟩
          rw [← HSX.out, ← HGD.out]
          have Bw18 := Lib.hid (Bw17.out.trans (b.mono Bw17.out.size))
          clear b
          go_wp2
          go_ret
          exact ⟨by first | rfl | simp, Bw18.out⟩
        | true =>
          obtain ⟨f1, f2⟩ := ts_room HKN.out.symm
          rw [← HDV.out] at f1 f2
          have F1 : Hid (decide (0 ≤ findV ps d11) = true) := Lib.hid (decide_eq_true f1)
          obtain ⟨ra, hra⟩ : ∃ ra, ra = restV ps d11 := ⟨_, rfl⟩
          rw [← hra] at f2
          have HRA := Lib.hid hra
          have d1 : decide (ra < z11) = false := by simp; omega
          clear hra f1
          go_wp2_with fail
          refine (implRestOf_any A11 ps.length c11 ps d11 _ rfl HR11.out (by omega) hW11.out).mono ?_
          rintro e w19 ⟨rfl, b⟩
          rw [F1.out, ← HRA.out]
          have Bw19 := Lib.hid (Bw16.out.trans (b.mono Bw16.out.size))
          have HR4' := Lib.hid (HR4.out.below b)
          clear HR4
          have HR4 := HR4'
          clear HR4'
          have HR11' := Lib.hid (HR11.out.below b)
          clear HR11
          have HR11 := HR11'
          clear HR11'
          clear b
          obtain ⟨sx, h_sx⟩ : ∃ sx, sx = bkV us := ⟨_, rfl⟩
          have HSX := Lib.hid h_sx
          clear h_sx
          obtain ⟨gd, h_gd⟩ : ∃ gd, gd = bookB us := ⟨_, rfl⟩
          have HGD := Lib.hid h_gd
          clear h_gd
          go_wp2_with fail
          refine (implBookText_any A4 us.length c4 us _ rfl HR4.out (by omega) hW4.out (fun w' h => HT.out w' (Bw19.out.trans (h.mono Bw19.out.size)))).mono ?_
          rintro e w20 ⟨rfl, b⟩
          rw [← HSX.out, ← HGD.out]
          have Bw20 := Lib.hid (Bw19.out.trans (b.mono Bw19.out.size))
          have HR4' := Lib.hid (HR4.out.below b)
          clear HR4
          have HR4 := HR4'
          clear HR4'
          clear b
          go_wp2_with fail
          refine (specBookText_any A4 us.length c4 us _ rfl HR4.out (by omega) hW4.out).mono ?_
          rintro e w21 ⟨rfl, b⟩
          rw [← HSX.out, ← HGD.out]
          have Bw21 := Lib.hid (Bw20.out.trans (b.mono Bw20.out.size))
          clear b
          go_wp2
          go_ret
          exact ⟨by first | rfl | simp, Bw21.out⟩
      | true =>
        obtain ⟨f1, f2⟩ := sw_twice HTD.out.symm
        rw [← HRV.out] at f1 f2
        have F1 := Lib.hid f1
        have F2 := Lib.hid f2
        clear f1 f2
        go_wp2_with fail
        refine (implSwapStrips_any A8 R.length c8 R x7 y7 _ rfl HR8.out hRn hWR.out).mono ?_
        rintro e w22 ⟨v10, vs10, rfl, o, b⟩
        rw [F1.out]
        rw [F2.out] at o
        obtain ⟨A10, c10, rfl⟩ := own_form o.2.1
        have Bw22 := Lib.hid (Bw13.out.trans (b.mono Bw13.out.size))
        have HR4' := Lib.hid (HR4.out.below b)
        clear HR4
        have HR4 := HR4'
        clear HR4'
        have HR7' := Lib.hid (HR7.out.below b)
        clear HR7
        have HR7 := HR7'
        clear HR7'
        have HR8' := Lib.hid (HR8.out.below b)
        clear HR8
        have HR8 := HR8'
        clear HR8'
        have HR10 := Lib.hid o.rd2
        clear o b
        go_wp2_with fail
        refine (rBooks_same _ _ _ _ _ qs _ rfl HR10.out HR7.out (by omega) hW7.out).mono ?_
        rintro e w23 ⟨rfl, b⟩
        have Bw23 := Lib.hid (Bw22.out.trans (b.mono Bw22.out.size))
        have HR4' := Lib.hid (HR4.out.below b)
        clear HR4
        have HR4 := HR4'
        clear HR4'
        clear b
        go_wp2_with fail
        refine (D4.out _ (HY.out.below Bw23.out)).mono ?_
        rintro e w24 ⟨v11, ps, z11, rfl, hl, b⟩
        have Bw24 := Lib.hid (Bw23.out.trans (b.mono Bw23.out.size))
        have HR4' := Lib.hid (HR4.out.below b)
        clear HR4
        have HR4 := HR4'
        clear HR4'
        obtain ⟨A11, c11, rfl, r11, -, -⟩ := hl.form
        have hl11 := hl.len
        have hw11 := Lib.hid hl.wid
        have HR11 := Lib.hid r11
        clear r11 hl b
        have hW11 : Hid (∀ x ∈ ps, x.ws.length ≤ 1048576) := Lib.hid (fun x hx => by have := hw11.out x hx; omega)
        clear hw11
        obtain ⟨d11, h_d11⟩ : ∃ d11, d11 = tsV ps z11 := ⟨_, rfl⟩
        have HDV := Lib.hid h_d11
        clear h_d11
        obtain ⟨kn, h_kn⟩ : ∃ kn, kn = tsB ps z11 := ⟨_, rfl⟩
        have HKN := Lib.hid h_kn
        clear h_kn
        have hdd11 : (d11 != d11) = false := by simp
        go_wp2_with fail
        refine (implTightStrip_any A11 ps.length c11 ps z11 _ rfl HR11.out (by omega) hW11.out).mono ?_
        rintro e w25 ⟨rfl, b⟩
        rw [← HDV.out, ← HKN.out]
        have Bw25 := Lib.hid (Bw24.out.trans (b.mono Bw24.out.size))
        have HR4' := Lib.hid (HR4.out.below b)
        clear HR4
        have HR4 := HR4'
        clear HR4'
        have HR11' := Lib.hid (HR11.out.below b)
        clear HR11
        have HR11 := HR11'
        clear HR11'
        clear b
        go_wp2_with fail
        refine (specTightStrip_any A11 ps.length c11 ps z11 _ rfl HR11.out (by omega) hW11.out).mono ?_
        rintro e w26 ⟨rfl, b⟩
        rw [← HDV.out, ← HKN.out]
        have Bw26 := Lib.hid (Bw25.out.trans (b.mono Bw25.out.size))
        have HR4' := Lib.hid (HR4.out.below b)
        clear HR4
        have HR4 := HR4'
        clear HR4'
        have HR11' := Lib.hid (HR11.out.below b)
        clear HR11
        have HR11 := HR11'
        clear HR11'
        clear b
        cases kn with
        | false =>
          obtain ⟨sx, h_sx⟩ : ∃ sx, sx = bkV us := ⟨_, rfl⟩
          have HSX := Lib.hid h_sx
          clear h_sx
          obtain ⟨gd, h_gd⟩ : ∃ gd, gd = bookB us := ⟨_, rfl⟩
          have HGD := Lib.hid h_gd
          clear h_gd
          go_wp2_with fail
          refine (implBookText_any A4 us.length c4 us _ rfl HR4.out (by omega) hW4.out (fun w' h => HT.out w' (Bw26.out.trans (h.mono Bw26.out.size)))).mono ?_
          rintro e w27 ⟨rfl, b⟩
          rw [← HSX.out, ← HGD.out]
          have Bw27 := Lib.hid (Bw26.out.trans (b.mono Bw26.out.size))
          have HR4' := Lib.hid (HR4.out.below b)
          clear HR4
          have HR4 := HR4'
          clear HR4'
          clear b
          go_wp2_with fail
          refine (specBookText_any A4 us.length c4 us _ rfl HR4.out (by omega) hW4.out).mono ?_
          rintro e w28 ⟨rfl, b⟩
          rw [← HSX.out, ← HGD.out]
          have Bw28 := Lib.hid (Bw27.out.trans (b.mono Bw27.out.size))
          clear b
          go_wp2
          go_ret
          exact ⟨by first | rfl | simp, Bw28.out⟩
        | true =>
          obtain ⟨f1, f2⟩ := ts_room HKN.out.symm
          rw [← HDV.out] at f1 f2
          have F1 : Hid (decide (0 ≤ findV ps d11) = true) := Lib.hid (decide_eq_true f1)
          obtain ⟨ra, hra⟩ : ∃ ra, ra = restV ps d11 := ⟨_, rfl⟩
          rw [← hra] at f2
          have HRA := Lib.hid hra
          have d1 : decide (ra < z11) = false := by simp; omega
          clear hra f1
          go_wp2_with fail
          refine (implRestOf_any A11 ps.length c11 ps d11 _ rfl HR11.out (by omega) hW11.out).mono ?_
          rintro e w29 ⟨rfl, b⟩
          rw [F1.out, ← HRA.out]
          have Bw29 := Lib.hid (Bw26.out.trans (b.mono Bw26.out.size))
          have HR4' := Lib.hid (HR4.out.below b)
          clear HR4
          have HR4 := HR4'
          clear HR4'
          have HR11' := Lib.hid (HR11.out.below b)
          clear HR11
          have HR11 := HR11'
          clear HR11'
          clear b
          obtain ⟨sx, h_sx⟩ : ∃ sx, sx = bkV us := ⟨_, rfl⟩
          have HSX := Lib.hid h_sx
          clear h_sx
          obtain ⟨gd, h_gd⟩ : ∃ gd, gd = bookB us := ⟨_, rfl⟩
          have HGD := Lib.hid h_gd
          clear h_gd
          go_wp2_with fail
          refine (implBookText_any A4 us.length c4 us _ rfl HR4.out (by omega) hW4.out (fun w' h => HT.out w' (Bw29.out.trans (h.mono Bw29.out.size)))).mono ?_
          rintro e w30 ⟨rfl, b⟩
          rw [← HSX.out, ← HGD.out]
          have Bw30 := Lib.hid (Bw29.out.trans (b.mono Bw29.out.size))
          have HR4' := Lib.hid (HR4.out.below b)
          clear HR4
          have HR4 := HR4'
          clear HR4'
          clear b
          go_wp2_with fail
          refine (specBookText_any A4 us.length c4 us _ rfl HR4.out (by omega) hW4.out).mono ?_
          rintro e w31 ⟨rfl, b⟩
          rw [← HSX.out, ← HGD.out]
          have Bw31 := Lib.hid (Bw30.out.trans (b.mono Bw30.out.size))
          clear b
          go_wp2
          go_ret
          exact ⟨by first | rfl | simp, Bw31.out⟩
    | true =>
      obtain ⟨f1, f2, f3, f4⟩ := sb_facts HFI.out.symm
      rw [← HE.out] at f2 f3 f4
      have G1 := Lib.hid f1
      have G2 := Lib.hid f2
      have G3 := Lib.hid f3
      have hEl : E.length = us.length := f4
      have HEL := Lib.hid hEl
      have hx8 := (bookB_yes f1).2
      clear f1 f2 f3 f4 hEl
      go_wp2_with fail
      go_loopw [22, 23, 24] (fun a b i wr => ∃ t : Nat, i = .int .i64 t ∧ t ≤ us.length ∧ a = .int .i64 (totB (us.take t)) ∧ b = .int .i64 (totB (E.take t)) ∧ w9 = wr) (fun a b i _ => us.length - (intOf i).toNat)
      case atStart => exact ⟨0, rfl, by omega, by simp [totB], by simp [totB], rfl⟩
      case round =>
        obtain ⟨t, rfl, ht, rfl, rfl, rfl⟩ := hrel
        have bT := totB_take_bd (bookB_rows G1.out) t (bookB_yes G1.out).2
        obtain ⟨T, hT⟩ : ∃ T, T = totB (us.take t) := ⟨_, rfl⟩
        rw [← hT] at bT ⊢
        have HTT := Lib.hid hT
        clear hT
        have bU := totB_take_bd (bookB_rows G2.out) t (bookB_yes G2.out).2
        obtain ⟨U, hU⟩ : ∃ U, U = totB (E.take t) := ⟨_, rfl⟩
        rw [← hU] at bU ⊢
        have HUU := Lib.hid hU
        clear hU
        by_cases htl : t < us.length
        · have htl' : (t : Int) < (us.length : Int) := by omega
          have ht0 : (0 : Int) ≤ (t : Int) := by omega
          have htE : t < E.length := by have := HEL.out; omega
          have htE' : (t : Int) < (E.length : Int) := by omega
          obtain ⟨x, ex⟩ : ∃ x, us[t]? = some x := ⟨_, List.getElem?_eq_getElem htl⟩
          have hstx := totB_take ex
          rw [← HTT.out] at hstx
          have b2x := totB_take_bd (bookB_rows G1.out) (t + 1) (bookB_yes G1.out).2
          rw [hstx] at b2x
          have hrx := rowB_yes (bookB_rows G1.out x (List.mem_of_getElem? ex))
          have bbx := sum_bd hrx.1
          have hnx := hrx.2.1
          obtain ⟨gx, ox, Bx, c0x, eAx, hgx, -, czx, -, -, rzx⟩ := HR4.out.at ex
          subst eAx
          obtain ⟨sx, hsx⟩ : ∃ sx, sx = x.ws.sum := ⟨_, rfl⟩
          rw [← hsx] at hstx b2x bbx
          have HWx : Hid (wrap64 x.ws.sum = sx) := Lib.hid (by rw [← hsx]; unfold wrap64; omega)
          have HSTx := Lib.hid hstx
          have HRZx := Lib.hid rzx
          clear ex hrx hsx hstx rzx
          obtain ⟨y, ey⟩ : ∃ y, E[t]? = some y := ⟨_, List.getElem?_eq_getElem htE⟩
          have hsty := totB_take ey
          rw [← HUU.out] at hsty
          have b2y := totB_take_bd (bookB_rows G2.out) (t + 1) (bookB_yes G2.out).2
          rw [hsty] at b2y
          have hry := rowB_yes (bookB_rows G2.out y (List.mem_of_getElem? ey))
          have bby := sum_bd hry.1
          have hny := hry.2.1
          obtain ⟨gy, oy, By, c0y, eAy, hgy, -, czy, -, -, rzy⟩ := HR5.out.at ey
          subst eAy
          obtain ⟨sy, hsy⟩ : ∃ sy, sy = y.ws.sum := ⟨_, rfl⟩
          rw [← hsy] at hsty b2y bby
          have HWy : Hid (wrap64 y.ws.sum = sy) := Lib.hid (by rw [← hsy]; unfold wrap64; omega)
          have HSTy := Lib.hid hsty
          have HRZy := Lib.hid rzy
          clear ey hry hsy hsty rzy
          go_wp2_with fail
          refine (rSum_any Bx x.ws.length c0x x.ws _ rfl HRZx.out (by omega)).mono ?_
          rintro e wb ⟨rfl, rfl⟩
          rw [HWx.out]
          go_wp2_with fail
          refine (rSum_any By y.ws.length c0y y.ws _ rfl HRZy.out (by omega)).mono ?_
          rintro e wb ⟨rfl, rfl⟩
          rw [HWy.out]
          go_wp2
          go_roundw
          case rel => exact ⟨t + 1, by go_num, by omega, by (rw [HSTx.out] <;> go_num), by (rw [HSTy.out] <;> go_num), by first | rfl | trivial⟩
          case measure => simp [intOf]; omega
        · obtain rfl : t = us.length := by omega
          have hTe : T = U := by have h1 := HTT.out; have h2 := HUU.out; rw [List.take_length] at h1; rw [← HEL.out, List.take_length] at h2; rw [h1, h2, G3.out]
          subst hTe
          clear HTT HUU bU
          have hUU : (T != T) = false := by simp
          go_wp2_with fail
          refine (implIsStockBook_any A5 E.length c5 E _ rfl HR5.out hEn hWE.out).mono ?_
          rintro e w32 ⟨rfl, b⟩
          rw [G2.out]
          have Bw32 := Lib.hid (Bw9.out.trans (b.mono Bw9.out.size))
          have HR4' := Lib.hid (HR4.out.below b)
          clear HR4
          have HR4 := HR4'
          clear HR4'
          clear b
          go_wp2_with fail
          refine (D3.out _ (HY.out.below Bw32.out)).mono ?_
          rintro e w33 ⟨v7, qs, x7, y7, rfl, hl, b⟩
          have Bw33 := Lib.hid (Bw32.out.trans (b.mono Bw32.out.size))
          have HR4' := Lib.hid (HR4.out.below b)
          clear HR4
          have HR4 := HR4'
          clear HR4'
          obtain ⟨A7, c7, rfl, r7, -, -⟩ := hl.form
          have hl7 := hl.len
          have hw7 := Lib.hid hl.wid
          have HR7 := Lib.hid r7
          clear r7 hl b
          have hW7 : Hid (∀ x ∈ qs, x.ws.length ≤ 1048576) := Lib.hid (fun x hx => by have := hw7.out x hx; omega)
          clear hw7
          obtain ⟨told, h_told⟩ : ∃ told, told = swB qs x7 y7 := ⟨_, rfl⟩
          have HTD := Lib.hid h_told
          clear h_told
          obtain ⟨R, h_R⟩ : ∃ R, R = swV qs x7 y7 := ⟨_, rfl⟩
          have HRV := Lib.hid h_R
          clear h_R
          have HRS : Hid (smallB R) := Lib.hid (by rw [HRV.out]; exact sw_small qs x7 y7)
          have hRn := smallB_n HRS.out
          have hWR := Lib.hid (smallB_w HRS.out)
          go_wp2_with fail
          refine (implSwapStrips_any A7 qs.length c7 qs x7 y7 _ rfl HR7.out (by omega) hW7.out).mono ?_
          rintro e w34 ⟨v8, vs8, rfl, o, b⟩
          rw [← HTD.out]
          rw [← HRV.out] at o
          obtain ⟨A8, c8, rfl⟩ := own_form o.2.1
          have Bw34 := Lib.hid (Bw33.out.trans (b.mono Bw33.out.size))
          have HR4' := Lib.hid (HR4.out.below b)
          clear HR4
          have HR4 := HR4'
          clear HR4'
          have HR7' := Lib.hid (HR7.out.below b)
          clear HR7
          have HR7 := HR7'
          clear HR7'
          have HR8 := Lib.hid o.rd2
          clear o b
          go_wp2_with fail
          refine (specSwapStrips_any A7 qs.length c7 qs x7 y7 _ rfl HR7.out (by omega) hW7.out).mono ?_
          rintro e w35 ⟨v9, vs9, rfl, o, b⟩
          rw [← HTD.out]
          rw [← HRV.out] at o
          obtain ⟨A9, c9, rfl⟩ := own_form o.2.1
          have Bw35 := Lib.hid (Bw34.out.trans (b.mono Bw34.out.size))
          have HR4' := Lib.hid (HR4.out.below b)
          clear HR4
          have HR4 := HR4'
          clear HR4'
          have HR7' := Lib.hid (HR7.out.below b)
          clear HR7
          have HR7 := HR7'
          clear HR7'
          have HR8' := Lib.hid (HR8.out.below b)
          clear HR8
          have HR8 := HR8'
          clear HR8'
          have HR9 := Lib.hid o.rd2
          clear o b
          go_wp2_with fail
          refine (rBooks_same _ _ _ _ _ R _ rfl HR8.out HR9.out hRn hWR.out).mono ?_
          rintro e w36 ⟨rfl, b⟩
          have Bw36 := Lib.hid (Bw35.out.trans (b.mono Bw35.out.size))
          have HR4' := Lib.hid (HR4.out.below b)
          clear HR4
          have HR4 := HR4'
          clear HR4'
          have HR7' := Lib.hid (HR7.out.below b)
          clear HR7
          have HR7 := HR7'
          clear HR7'
          have HR8' := Lib.hid (HR8.out.below b)
          clear HR8
          have HR8 := HR8'
          clear HR8'
          clear b
          cases told with
          | false =>
            go_wp2_with fail
            refine (D4.out _ (HY.out.below Bw36.out)).mono ?_
            rintro e w37 ⟨v11, ps, z11, rfl, hl, b⟩
            have Bw37 := Lib.hid (Bw36.out.trans (b.mono Bw36.out.size))
            have HR4' := Lib.hid (HR4.out.below b)
            clear HR4
            have HR4 := HR4'
            clear HR4'
            obtain ⟨A11, c11, rfl, r11, -, -⟩ := hl.form
            have hl11 := hl.len
            have hw11 := Lib.hid hl.wid
            have HR11 := Lib.hid r11
            clear r11 hl b
            have hW11 : Hid (∀ x ∈ ps, x.ws.length ≤ 1048576) := Lib.hid (fun x hx => by have := hw11.out x hx; omega)
            clear hw11
            obtain ⟨d11, h_d11⟩ : ∃ d11, d11 = tsV ps z11 := ⟨_, rfl⟩
            have HDV := Lib.hid h_d11
            clear h_d11
            obtain ⟨kn, h_kn⟩ : ∃ kn, kn = tsB ps z11 := ⟨_, rfl⟩
            have HKN := Lib.hid h_kn
            clear h_kn
            have hdd11 : (d11 != d11) = false := by simp
            go_wp2_with fail
            refine (implTightStrip_any A11 ps.length c11 ps z11 _ rfl HR11.out (by omega) hW11.out).mono ?_
            rintro e w38 ⟨rfl, b⟩
            rw [← HDV.out, ← HKN.out]
            have Bw38 := Lib.hid (Bw37.out.trans (b.mono Bw37.out.size))
            have HR4' := Lib.hid (HR4.out.below b)
            clear HR4
            have HR4 := HR4'
            clear HR4'
            have HR11' := Lib.hid (HR11.out.below b)
            clear HR11
            have HR11 := HR11'
            clear HR11'
            clear b
            go_wp2_with fail
            refine (specTightStrip_any A11 ps.length c11 ps z11 _ rfl HR11.out (by omega) hW11.out).mono ?_
            rintro e w39 ⟨rfl, b⟩
            rw [← HDV.out, ← HKN.out]
            have Bw39 := Lib.hid (Bw38.out.trans (b.mono Bw38.out.size))
            have HR4' := Lib.hid (HR4.out.below b)
            clear HR4
            have HR4 := HR4'
            clear HR4'
            have HR11' := Lib.hid (HR11.out.below b)
            clear HR11
            have HR11 := HR11'
            clear HR11'
            clear b
            cases kn with
            | false =>
              obtain ⟨sx, h_sx⟩ : ∃ sx, sx = bkV us := ⟨_, rfl⟩
              have HSX := Lib.hid h_sx
              clear h_sx
              obtain ⟨gd, h_gd⟩ : ∃ gd, gd = bookB us := ⟨_, rfl⟩
              have HGD := Lib.hid h_gd
              clear h_gd
              go_wp2_with fail
              refine (implBookText_any A4 us.length c4 us _ rfl HR4.out (by omega) hW4.out (fun w' h => HT.out w' (Bw39.out.trans (h.mono Bw39.out.size)))).mono ?_
              rintro e w40 ⟨rfl, b⟩
              rw [← HSX.out, ← HGD.out]
              have Bw40 := Lib.hid (Bw39.out.trans (b.mono Bw39.out.size))
              have HR4' := Lib.hid (HR4.out.below b)
              clear HR4
              have HR4 := HR4'
              clear HR4'
              clear b
              go_wp2_with fail
              refine (specBookText_any A4 us.length c4 us _ rfl HR4.out (by omega) hW4.out).mono ?_
              rintro e w41 ⟨rfl, b⟩
              rw [← HSX.out, ← HGD.out]
              have Bw41 := Lib.hid (Bw40.out.trans (b.mono Bw40.out.size))
              clear b
              go_wp2
              go_ret
              exact ⟨by first | rfl | simp, Bw41.out⟩
            | true =>
              obtain ⟨f1, f2⟩ := ts_room HKN.out.symm
              rw [← HDV.out] at f1 f2
              have F1 : Hid (decide (0 ≤ findV ps d11) = true) := Lib.hid (decide_eq_true f1)
              obtain ⟨ra, hra⟩ : ∃ ra, ra = restV ps d11 := ⟨_, rfl⟩
              rw [← hra] at f2
              have HRA := Lib.hid hra
              have d1 : decide (ra < z11) = false := by simp; omega
              clear hra f1
              go_wp2_with fail
              refine (implRestOf_any A11 ps.length c11 ps d11 _ rfl HR11.out (by omega) hW11.out).mono ?_
              rintro e w42 ⟨rfl, b⟩
              rw [F1.out, ← HRA.out]
              have Bw42 := Lib.hid (Bw39.out.trans (b.mono Bw39.out.size))
              have HR4' := Lib.hid (HR4.out.below b)
              clear HR4
              have HR4 := HR4'
              clear HR4'
              have HR11' := Lib.hid (HR11.out.below b)
              clear HR11
              have HR11 := HR11'
              clear HR11'
              clear b
              obtain ⟨sx, h_sx⟩ : ∃ sx, sx = bkV us := ⟨_, rfl⟩
              have HSX := Lib.hid h_sx
              clear h_sx
              obtain ⟨gd, h_gd⟩ : ∃ gd, gd = bookB us := ⟨_, rfl⟩
              have HGD := Lib.hid h_gd
              clear h_gd
              go_wp2_with fail
              refine (implBookText_any A4 us.length c4 us _ rfl HR4.out (by omega) hW4.out (fun w' h => HT.out w' (Bw42.out.trans (h.mono Bw42.out.size)))).mono ?_
              rintro e w43 ⟨rfl, b⟩
              rw [← HSX.out, ← HGD.out]
              have Bw43 := Lib.hid (Bw42.out.trans (b.mono Bw42.out.size))
              have HR4' := Lib.hid (HR4.out.below b)
              clear HR4
              have HR4 := HR4'
              clear HR4'
              clear b
              go_wp2_with fail
              refine (specBookText_any A4 us.length c4 us _ rfl HR4.out (by omega) hW4.out).mono ?_
              rintro e w44 ⟨rfl, b⟩
              rw [← HSX.out, ← HGD.out]
              have Bw44 := Lib.hid (Bw43.out.trans (b.mono Bw43.out.size))
              clear b
              go_wp2
              go_ret
              exact ⟨by first | rfl | simp, Bw44.out⟩
          | true =>
            obtain ⟨f1, f2⟩ := sw_twice HTD.out.symm
            rw [← HRV.out] at f1 f2
            have F1 := Lib.hid f1
            have F2 := Lib.hid f2
            clear f1 f2
            go_wp2_with fail
            refine (implSwapStrips_any A8 R.length c8 R x7 y7 _ rfl HR8.out hRn hWR.out).mono ?_
            rintro e w45 ⟨v10, vs10, rfl, o, b⟩
            rw [F1.out]
            rw [F2.out] at o
            obtain ⟨A10, c10, rfl⟩ := own_form o.2.1
            have Bw45 := Lib.hid (Bw36.out.trans (b.mono Bw36.out.size))
            have HR4' := Lib.hid (HR4.out.below b)
            clear HR4
            have HR4 := HR4'
            clear HR4'
            have HR7' := Lib.hid (HR7.out.below b)
            clear HR7
            have HR7 := HR7'
            clear HR7'
            have HR8' := Lib.hid (HR8.out.below b)
            clear HR8
            have HR8 := HR8'
            clear HR8'
            have HR10 := Lib.hid o.rd2
            clear o b
            go_wp2_with fail
            refine (rBooks_same _ _ _ _ _ qs _ rfl HR10.out HR7.out (by omega) hW7.out).mono ?_
            rintro e w46 ⟨rfl, b⟩
            have Bw46 := Lib.hid (Bw45.out.trans (b.mono Bw45.out.size))
            have HR4' := Lib.hid (HR4.out.below b)
            clear HR4
            have HR4 := HR4'
            clear HR4'
            clear b
            go_wp2_with fail
            refine (D4.out _ (HY.out.below Bw46.out)).mono ?_
            rintro e w47 ⟨v11, ps, z11, rfl, hl, b⟩
            have Bw47 := Lib.hid (Bw46.out.trans (b.mono Bw46.out.size))
            have HR4' := Lib.hid (HR4.out.below b)
            clear HR4
            have HR4 := HR4'
            clear HR4'
            obtain ⟨A11, c11, rfl, r11, -, -⟩ := hl.form
            have hl11 := hl.len
            have hw11 := Lib.hid hl.wid
            have HR11 := Lib.hid r11
            clear r11 hl b
            have hW11 : Hid (∀ x ∈ ps, x.ws.length ≤ 1048576) := Lib.hid (fun x hx => by have := hw11.out x hx; omega)
            clear hw11
            obtain ⟨d11, h_d11⟩ : ∃ d11, d11 = tsV ps z11 := ⟨_, rfl⟩
            have HDV := Lib.hid h_d11
            clear h_d11
            obtain ⟨kn, h_kn⟩ : ∃ kn, kn = tsB ps z11 := ⟨_, rfl⟩
            have HKN := Lib.hid h_kn
            clear h_kn
            have hdd11 : (d11 != d11) = false := by simp
            go_wp2_with fail
            refine (implTightStrip_any A11 ps.length c11 ps z11 _ rfl HR11.out (by omega) hW11.out).mono ?_
            rintro e w48 ⟨rfl, b⟩
            rw [← HDV.out, ← HKN.out]
            have Bw48 := Lib.hid (Bw47.out.trans (b.mono Bw47.out.size))
            have HR4' := Lib.hid (HR4.out.below b)
            clear HR4
            have HR4 := HR4'
            clear HR4'
            have HR11' := Lib.hid (HR11.out.below b)
            clear HR11
            have HR11 := HR11'
            clear HR11'
            clear b
            go_wp2_with fail
            refine (specTightStrip_any A11 ps.length c11 ps z11 _ rfl HR11.out (by omega) hW11.out).mono ?_
            rintro e w49 ⟨rfl, b⟩
            rw [← HDV.out, ← HKN.out]
            have Bw49 := Lib.hid (Bw48.out.trans (b.mono Bw48.out.size))
            have HR4' := Lib.hid (HR4.out.below b)
            clear HR4
            have HR4 := HR4'
            clear HR4'
            have HR11' := Lib.hid (HR11.out.below b)
            clear HR11
            have HR11 := HR11'
            clear HR11'
            clear b
            cases kn with
            | false =>
              obtain ⟨sx, h_sx⟩ : ∃ sx, sx = bkV us := ⟨_, rfl⟩
              have HSX := Lib.hid h_sx
              clear h_sx
              obtain ⟨gd, h_gd⟩ : ∃ gd, gd = bookB us := ⟨_, rfl⟩
              have HGD := Lib.hid h_gd
              clear h_gd
              go_wp2_with fail
              refine (implBookText_any A4 us.length c4 us _ rfl HR4.out (by omega) hW4.out (fun w' h => HT.out w' (Bw49.out.trans (h.mono Bw49.out.size)))).mono ?_
              rintro e w50 ⟨rfl, b⟩
              rw [← HSX.out, ← HGD.out]
              have Bw50 := Lib.hid (Bw49.out.trans (b.mono Bw49.out.size))
              have HR4' := Lib.hid (HR4.out.below b)
              clear HR4
              have HR4 := HR4'
              clear HR4'
              clear b
              go_wp2_with fail
              refine (specBookText_any A4 us.length c4 us _ rfl HR4.out (by omega) hW4.out).mono ?_
              rintro e w51 ⟨rfl, b⟩
              rw [← HSX.out, ← HGD.out]
              have Bw51 := Lib.hid (Bw50.out.trans (b.mono Bw50.out.size))
              clear b
              go_wp2
              go_ret
              exact ⟨by first | rfl | simp, Bw51.out⟩
            | true =>
              obtain ⟨f1, f2⟩ := ts_room HKN.out.symm
              rw [← HDV.out] at f1 f2
              have F1 : Hid (decide (0 ≤ findV ps d11) = true) := Lib.hid (decide_eq_true f1)
              obtain ⟨ra, hra⟩ : ∃ ra, ra = restV ps d11 := ⟨_, rfl⟩
              rw [← hra] at f2
              have HRA := Lib.hid hra
              have d1 : decide (ra < z11) = false := by simp; omega
              clear hra f1
              go_wp2_with fail
              refine (implRestOf_any A11 ps.length c11 ps d11 _ rfl HR11.out (by omega) hW11.out).mono ?_
              rintro e w52 ⟨rfl, b⟩
              rw [F1.out, ← HRA.out]
              have Bw52 := Lib.hid (Bw49.out.trans (b.mono Bw49.out.size))
              have HR4' := Lib.hid (HR4.out.below b)
              clear HR4
              have HR4 := HR4'
              clear HR4'
              have HR11' := Lib.hid (HR11.out.below b)
              clear HR11
              have HR11 := HR11'
              clear HR11'
              clear b
              obtain ⟨sx, h_sx⟩ : ∃ sx, sx = bkV us := ⟨_, rfl⟩
              have HSX := Lib.hid h_sx
              clear h_sx
              obtain ⟨gd, h_gd⟩ : ∃ gd, gd = bookB us := ⟨_, rfl⟩
              have HGD := Lib.hid h_gd
              clear h_gd
              go_wp2_with fail
              refine (implBookText_any A4 us.length c4 us _ rfl HR4.out (by omega) hW4.out (fun w' h => HT.out w' (Bw52.out.trans (h.mono Bw52.out.size)))).mono ?_
              rintro e w53 ⟨rfl, b⟩
              rw [← HSX.out, ← HGD.out]
              have Bw53 := Lib.hid (Bw52.out.trans (b.mono Bw52.out.size))
              have HR4' := Lib.hid (HR4.out.below b)
              clear HR4
              have HR4 := HR4'
              clear HR4'
              clear b
              go_wp2_with fail
              refine (specBookText_any A4 us.length c4 us _ rfl HR4.out (by omega) hW4.out).mono ?_
              rintro e w54 ⟨rfl, b⟩
              rw [← HSX.out, ← HGD.out]
              have Bw54 := Lib.hid (Bw53.out.trans (b.mono Bw53.out.size))
              clear b
              go_wp2
              go_ret
              exact ⟨by first | rfl | simp, Bw54.out⟩
  | true =>
    obtain ⟨f1, f2, f3, f4, f5⟩ := fb_facts HOK.out.symm
    rw [← HS.out] at f2 f3
    rw [← HL.out] at f3
    have F1 := Lib.hid f1
    have F2 := Lib.hid f2
    have F4 := Lib.hid f4
    obtain ⟨tb, htb⟩ : ∃ tb, tb = totB xs := ⟨_, rfl⟩
    obtain ⟨ta, hta⟩ : ∃ ta, ta = totB S := ⟨_, rfl⟩
    obtain ⟨su, hsu⟩ : ∃ su, su = ws.sum := ⟨_, rfl⟩
    obtain ⟨lf, hlf⟩ : ∃ lf, lf = leftN L ws ws.length := ⟨_, rfl⟩
    rw [← hta, ← htb, ← hsu, ← hlf] at f3
    have hx8 := (bookB_yes f1).2
    have hs8 := (bookB_yes f2).2
    have btb := totB_take_bd (bookB_rows f1) xs.length hx8
    have bta := totB_take_bd (bookB_rows f2) S.length hs8
    have bsu := sum_bd f4
    have blf := leftN_bd (n := L) f4 ws.length
    rw [List.take_length, ← htb] at btb
    rw [List.take_length, ← hta] at bta
    rw [← hsu] at bsu
    rw [← hlf] at blf
    have HTB := Lib.hid htb
    have HTA := Lib.hid hta
    have HSU := Lib.hid hsu
    have HLF := Lib.hid hlf
    clear f1 f2 f4 htb hta hsu hlf
    go_wp2_with fail
    go_loopw [11, 14] (fun s i wr => ∃ t : Nat, i = .int .i64 t ∧ t ≤ xs.length ∧ s = .int .i64 (totB (xs.take t)) ∧ w5 = wr) (fun s i _ => xs.length - (intOf i).toNat)
    case atStart => exact ⟨0, rfl, by omega, by simp [totB], rfl⟩
    case round =>
      obtain ⟨t, rfl, ht, rfl, rfl⟩ := hrel
      have bT := totB_take_bd (bookB_rows F1.out) t (bookB_yes F1.out).2
      obtain ⟨T, hT⟩ : ∃ T, T = totB (xs.take t) := ⟨_, rfl⟩
      rw [← hT] at bT ⊢
      have HTT := Lib.hid hT
      clear hT
      by_cases htl : t < xs.length
      · have htl' : (t : Int) < (xs.length : Int) := by omega
        obtain ⟨x, ex⟩ : ∃ x, xs[t]? = some x := ⟨_, List.getElem?_eq_getElem htl⟩
        have ht0 : (0 : Int) ≤ (t : Int) := by omega
        have hst := totB_take ex
        rw [← HTT.out] at hst
        have bT2 := totB_take_bd (bookB_rows F1.out) (t + 1) (bookB_yes F1.out).2
        rw [hst] at bT2
        have hrx := rowB_yes (bookB_rows F1.out x (List.mem_of_getElem? ex))
        have bx := sum_bd hrx.1
        have hxn := hrx.2.1
        obtain ⟨gz, oz, Bz, cz0, eAz, hgz, -, cz, -, -, rz⟩ := HR1.out.at ex
        subst eAz
        obtain ⟨sx, hsx⟩ : ∃ sx, sx = x.ws.sum := ⟨_, rfl⟩
        rw [← hsx] at hst bT2 bx
        have hwx : wrap64 x.ws.sum = sx := by rw [← hsx]; unfold wrap64; omega
        have HST := Lib.hid hst
        have HRZ := Lib.hid rz
        have HWX := Lib.hid hwx
        clear ex hrx hsx hst rz hwx
        go_wp2_with fail
        refine (rSum_any Bz x.ws.length cz0 x.ws _ rfl HRZ.out (by omega)).mono ?_
        rintro e wb ⟨rfl, rfl⟩
        rw [HWX.out]
        go_wp2
        go_roundw
        case rel => exact ⟨t + 1, by go_num, by omega, by (rw [HST.out] <;> go_num), by first | rfl | trivial⟩
        case measure => simp [intOf]; omega
      · obtain rfl : t = xs.length := by omega
        have hTe := HTT.out
        rw [List.take_length, ← HTB.out] at hTe
        have hTe2 := hTe.symm
        clear hTe
        subst hTe2
        clear HTT bT
        go_wp2_with fail
        go_loopw [12, 15] (fun s i wr => ∃ t : Nat, i = .int .i64 t ∧ t ≤ S.length ∧ s = .int .i64 (totB (S.take t)) ∧ w5 = wr) (fun s i _ => S.length - (intOf i).toNat)
        case atStart => exact ⟨0, rfl, by omega, by simp [totB], rfl⟩
        case round =>
          obtain ⟨t, rfl, ht, rfl, rfl⟩ := hrel
          have bT := totB_take_bd (bookB_rows F2.out) t (bookB_yes F2.out).2
          obtain ⟨T, hT⟩ : ∃ T, T = totB (S.take t) := ⟨_, rfl⟩
          rw [← hT] at bT ⊢
          have HTT := Lib.hid hT
          clear hT
          by_cases htl : t < S.length
          · have htl' : (t : Int) < (S.length : Int) := by omega
            obtain ⟨x, ex⟩ : ∃ x, S[t]? = some x := ⟨_, List.getElem?_eq_getElem htl⟩
            have ht0 : (0 : Int) ≤ (t : Int) := by omega
            have hst := totB_take ex
            rw [← HTT.out] at hst
            have bT2 := totB_take_bd (bookB_rows F2.out) (t + 1) (bookB_yes F2.out).2
            rw [hst] at bT2
            have hrx := rowB_yes (bookB_rows F2.out x (List.mem_of_getElem? ex))
            have bx := sum_bd hrx.1
            have hxn := hrx.2.1
            obtain ⟨gz, oz, Bz, cz0, eAz, hgz, -, cz, -, -, rz⟩ := HR2.out.at ex
            subst eAz
            obtain ⟨sx, hsx⟩ : ∃ sx, sx = x.ws.sum := ⟨_, rfl⟩
            rw [← hsx] at hst bT2 bx
            have hwx : wrap64 x.ws.sum = sx := by rw [← hsx]; unfold wrap64; omega
            have HST := Lib.hid hst
            have HRZ := Lib.hid rz
            have HWX := Lib.hid hwx
            clear ex hrx hsx hst rz hwx
            go_wp2_with fail
            refine (rSum_any Bz x.ws.length cz0 x.ws _ rfl HRZ.out (by omega)).mono ?_
            rintro e wb ⟨rfl, rfl⟩
            rw [HWX.out]
            go_wp2
            go_roundw
            case rel => exact ⟨t + 1, by go_num, by omega, by (rw [HST.out] <;> go_num), by first | rfl | trivial⟩
            case measure => simp [intOf]; omega
          · obtain rfl : t = S.length := by omega
            have hTe := HTT.out
            rw [List.take_length, ← HTA.out] at hTe
            have hTe2 := hTe.symm
            clear hTe
            subst hTe2
            clear HTT bT
            go_wp2_with fail
            go_loopw [13, 16] (fun s i wr => ∃ t : Nat, i = .int .i64 t ∧ t ≤ ws.length ∧ s = .int .i64 (leftN L ws t) ∧ w5 = wr) (fun s i _ => ws.length - (intOf i).toNat)
            case atStart => exact ⟨0, rfl, by omega, by simp [leftN], rfl⟩
            case round =>
              obtain ⟨t, rfl, ht, rfl, rfl⟩ := hrel
              have bT := leftN_bd (n := L) F4.out t
              obtain ⟨T, hT⟩ : ∃ T, T = leftN L ws t := ⟨_, rfl⟩
              rw [← hT] at bT ⊢
              have HTT := Lib.hid hT
              clear hT
              by_cases htl : t < ws.length
              · have htl' : (t : Int) < (ws.length : Int) := by omega
                obtain ⟨x, ex⟩ : ∃ x, ws[t]? = some x := ⟨_, List.getElem?_eq_getElem htl⟩
                have ht0 : (0 : Int) ≤ (t : Int) := by omega
                have hst := leftN_step (L := L) ex
                rw [← HTT.out] at hst
                have bx := wdB_bd.1 (F4.out x (List.mem_of_getElem? ex))
                obtain ⟨gz, oz, eAz, hgz, cz⟩ := HRW.out.at1 ex
                subst eAz
                have HST := Lib.hid hst
                clear ex hst
                go_wp2_with fail
                refine (rHas_any AN2 L.length cN2 L t _ rfl HN2.out (by omega)).mono ?_
                rintro e wb ⟨rfl, rfl⟩
                cases hb : hasB L (t : Int) with
                | false =>
                  have HST2 := Lib.hid HST.out
                  rw [hb] at HST2
                  clear HST
                  go_wp2
                  go_roundw
                  case rel => exact ⟨t + 1, by go_num, by omega, by rw [HST2.out]; simp, by first | rfl | trivial⟩
                  case measure => simp [intOf]; omega
                | true =>
                  have HST2 := Lib.hid HST.out
                  rw [hb] at HST2
                  clear HST
                  go_wp2
                  go_roundw
                  case rel => exact ⟨t + 1, by go_num, by omega, by rw [HST2.out]; simp, by first | rfl | trivial⟩
                  case measure => simp [intOf]; omega
              · obtain rfl : t = ws.length := by omega
                have hTe := HTT.out
                rw [← HLF.out] at hTe
                have hTe2 := hTe.symm
                clear hTe
                subst hTe2
                clear HTT bT
                have hwu : wrap64 ws.sum = su := by rw [← HSU.out]; unfold wrap64; omega
                have HWU := Lib.hid hwu
                clear hwu
                have hd1 : IntKind.i64.wrap (ta - tb) = su - lf := by rw [f3]; exact IntWalk.i64_in _ (by omega)
                have hd2 : IntKind.i64.wrap (su - lf) = su - lf := IntWalk.i64_in _ (by omega)
                have hdd : (su - lf != su - lf) = false := by simp
                go_wp2_with fail
                refine (rSum_any Aw ws.length cw ws _ rfl HRW.out (by omega)).mono ?_
                rintro e wb ⟨rfl, rfl⟩
                rw [HWU.out]
                go_wp2_with fail
                refine (implIsStockBook_any A2 S.length c2 S _ rfl HR2.out hSn hWS.out).mono ?_
                rintro e w55 ⟨rfl, b⟩
                rw [F2.out]
                have Bw55 := Lib.hid (Bw5.out.trans (b.mono Bw5.out.size))
                clear b
                go_wp2_with fail
                refine (D2.out _ (HY.out.below Bw55.out)).mono ?_
                rintro e w56 ⟨v4, us, rfl, hl, b⟩
                have Bw56 := Lib.hid (Bw55.out.trans (b.mono Bw55.out.size))
                obtain ⟨A4, c4, rfl, r4, -, -⟩ := hl.form
                have hl4 := hl.len
                have hw4 := Lib.hid hl.wid
                have HR4 := Lib.hid r4
                clear r4 hl b
                have hW4 : Hid (∀ x ∈ us, x.ws.length ≤ 1048576) := Lib.hid (fun x hx => by have := hw4.out x hx; omega)
                clear hw4
                obtain ⟨fine, h_fine⟩ : ∃ fine, fine = sbB us := ⟨_, rfl⟩
                have HFI := Lib.hid h_fine
                clear h_fine
                obtain ⟨E, h_E⟩ : ∃ E, E = sbV us := ⟨_, rfl⟩
                have HE := Lib.hid h_E
                clear h_E
                have HES : Hid (smallB E) := Lib.hid (by rw [HE.out]; exact sb_small us)
                have hEn := smallB_n HES.out
                have hWE := Lib.hid (smallB_w HES.out)
                go_wp2_with fail
                refine (implStraightenBook_any A4 us.length c4 us _ rfl HR4.out (by omega) hW4.out).mono ?_
                rintro e w57 ⟨v5, vs5, rfl, o, b⟩
                rw [← HFI.out]
                rw [← HE.out] at o
                obtain ⟨A5, c5, rfl⟩ := own_form o.2.1
                have Bw57 := Lib.hid (Bw56.out.trans (b.mono Bw56.out.size))
                have HR4' := Lib.hid (HR4.out.below b)
                clear HR4
                have HR4 := HR4'
                clear HR4'
                have HR5 := Lib.hid o.rd2
                clear o b
                go_wp2_with fail
                refine (specStraightenBook_any A4 us.length c4 us _ rfl HR4.out (by omega) hW4.out).mono ?_
                rintro e w58 ⟨v6, vs6, rfl, o, b⟩
                rw [← HFI.out]
                rw [← HE.out] at o
                obtain ⟨A6, c6, rfl⟩ := own_form o.2.1
                have Bw58 := Lib.hid (Bw57.out.trans (b.mono Bw57.out.size))
                have HR4' := Lib.hid (HR4.out.below b)
                clear HR4
                have HR4 := HR4'
                clear HR4'
                have HR5' := Lib.hid (HR5.out.below b)
                clear HR5
                have HR5 := HR5'
                clear HR5'
                have HR6 := Lib.hid o.rd2
                clear o b
                go_wp2_with fail
                refine (rBooks_same _ _ _ _ _ E _ rfl HR5.out HR6.out hEn hWE.out).mono ?_
                rintro e w59 ⟨rfl, b⟩
                have Bw59 := Lib.hid (Bw58.out.trans (b.mono Bw58.out.size))
                have HR4' := Lib.hid (HR4.out.below b)
                clear HR4
                have HR4 := HR4'
                clear HR4'
                have HR5' := Lib.hid (HR5.out.below b)
                clear HR5
                have HR5 := HR5'
                clear HR5'
                clear b
                cases fine with
                | false =>
                  go_wp2_with fail
                  refine (D3.out _ (HY.out.below Bw59.out)).mono ?_
                  rintro e w60 ⟨v7, qs, x7, y7, rfl, hl, b⟩
                  have Bw60 := Lib.hid (Bw59.out.trans (b.mono Bw59.out.size))
                  have HR4' := Lib.hid (HR4.out.below b)
                  clear HR4
                  have HR4 := HR4'
                  clear HR4'
                  obtain ⟨A7, c7, rfl, r7, -, -⟩ := hl.form
                  have hl7 := hl.len
                  have hw7 := Lib.hid hl.wid
                  have HR7 := Lib.hid r7
                  clear r7 hl b
                  have hW7 : Hid (∀ x ∈ qs, x.ws.length ≤ 1048576) := Lib.hid (fun x hx => by have := hw7.out x hx; omega)
                  clear hw7
                  obtain ⟨told, h_told⟩ : ∃ told, told = swB qs x7 y7 := ⟨_, rfl⟩
                  have HTD := Lib.hid h_told
                  clear h_told
                  obtain ⟨R, h_R⟩ : ∃ R, R = swV qs x7 y7 := ⟨_, rfl⟩
                  have HRV := Lib.hid h_R
                  clear h_R
                  have HRS : Hid (smallB R) := Lib.hid (by rw [HRV.out]; exact sw_small qs x7 y7)
                  have hRn := smallB_n HRS.out
                  have hWR := Lib.hid (smallB_w HRS.out)
                  go_wp2_with fail
                  refine (implSwapStrips_any A7 qs.length c7 qs x7 y7 _ rfl HR7.out (by omega) hW7.out).mono ?_
                  rintro e w61 ⟨v8, vs8, rfl, o, b⟩
                  rw [← HTD.out]
                  rw [← HRV.out] at o
                  obtain ⟨A8, c8, rfl⟩ := own_form o.2.1
                  have Bw61 := Lib.hid (Bw60.out.trans (b.mono Bw60.out.size))
                  have HR4' := Lib.hid (HR4.out.below b)
                  clear HR4
                  have HR4 := HR4'
                  clear HR4'
                  have HR7' := Lib.hid (HR7.out.below b)
                  clear HR7
                  have HR7 := HR7'
                  clear HR7'
                  have HR8 := Lib.hid o.rd2
                  clear o b
                  go_wp2_with fail
                  refine (specSwapStrips_any A7 qs.length c7 qs x7 y7 _ rfl HR7.out (by omega) hW7.out).mono ?_
                  rintro e w62 ⟨v9, vs9, rfl, o, b⟩
                  rw [← HTD.out]
                  rw [← HRV.out] at o
                  obtain ⟨A9, c9, rfl⟩ := own_form o.2.1
                  have Bw62 := Lib.hid (Bw61.out.trans (b.mono Bw61.out.size))
                  have HR4' := Lib.hid (HR4.out.below b)
                  clear HR4
                  have HR4 := HR4'
                  clear HR4'
                  have HR7' := Lib.hid (HR7.out.below b)
                  clear HR7
                  have HR7 := HR7'
                  clear HR7'
                  have HR8' := Lib.hid (HR8.out.below b)
                  clear HR8
                  have HR8 := HR8'
                  clear HR8'
                  have HR9 := Lib.hid o.rd2
                  clear o b
                  go_wp2_with fail
                  refine (rBooks_same _ _ _ _ _ R _ rfl HR8.out HR9.out hRn hWR.out).mono ?_
                  rintro e w63 ⟨rfl, b⟩
                  have Bw63 := Lib.hid (Bw62.out.trans (b.mono Bw62.out.size))
                  have HR4' := Lib.hid (HR4.out.below b)
                  clear HR4
                  have HR4 := HR4'
                  clear HR4'
                  have HR7' := Lib.hid (HR7.out.below b)
                  clear HR7
                  have HR7 := HR7'
                  clear HR7'
                  have HR8' := Lib.hid (HR8.out.below b)
                  clear HR8
                  have HR8 := HR8'
                  clear HR8'
                  clear b
                  cases told with
                  | false =>
                    go_wp2_with fail
                    refine (D4.out _ (HY.out.below Bw63.out)).mono ?_
                    rintro e w64 ⟨v11, ps, z11, rfl, hl, b⟩
                    have Bw64 := Lib.hid (Bw63.out.trans (b.mono Bw63.out.size))
                    have HR4' := Lib.hid (HR4.out.below b)
                    clear HR4
                    have HR4 := HR4'
                    clear HR4'
                    obtain ⟨A11, c11, rfl, r11, -, -⟩ := hl.form
                    have hl11 := hl.len
                    have hw11 := Lib.hid hl.wid
                    have HR11 := Lib.hid r11
                    clear r11 hl b
                    have hW11 : Hid (∀ x ∈ ps, x.ws.length ≤ 1048576) := Lib.hid (fun x hx => by have := hw11.out x hx; omega)
                    clear hw11
                    obtain ⟨d11, h_d11⟩ : ∃ d11, d11 = tsV ps z11 := ⟨_, rfl⟩
                    have HDV := Lib.hid h_d11
                    clear h_d11
                    obtain ⟨kn, h_kn⟩ : ∃ kn, kn = tsB ps z11 := ⟨_, rfl⟩
                    have HKN := Lib.hid h_kn
                    clear h_kn
                    have hdd11 : (d11 != d11) = false := by simp
                    go_wp2_with fail
                    refine (implTightStrip_any A11 ps.length c11 ps z11 _ rfl HR11.out (by omega) hW11.out).mono ?_
                    rintro e w65 ⟨rfl, b⟩
                    rw [← HDV.out, ← HKN.out]
                    have Bw65 := Lib.hid (Bw64.out.trans (b.mono Bw64.out.size))
                    have HR4' := Lib.hid (HR4.out.below b)
                    clear HR4
                    have HR4 := HR4'
                    clear HR4'
                    have HR11' := Lib.hid (HR11.out.below b)
                    clear HR11
                    have HR11 := HR11'
                    clear HR11'
                    clear b
                    go_wp2_with fail
                    refine (specTightStrip_any A11 ps.length c11 ps z11 _ rfl HR11.out (by omega) hW11.out).mono ?_
                    rintro e w66 ⟨rfl, b⟩
                    rw [← HDV.out, ← HKN.out]
                    have Bw66 := Lib.hid (Bw65.out.trans (b.mono Bw65.out.size))
                    have HR4' := Lib.hid (HR4.out.below b)
                    clear HR4
                    have HR4 := HR4'
                    clear HR4'
                    have HR11' := Lib.hid (HR11.out.below b)
                    clear HR11
                    have HR11 := HR11'
                    clear HR11'
                    clear b
                    cases kn with
                    | false =>
                      obtain ⟨sx, h_sx⟩ : ∃ sx, sx = bkV us := ⟨_, rfl⟩
                      have HSX := Lib.hid h_sx
                      clear h_sx
                      obtain ⟨gd, h_gd⟩ : ∃ gd, gd = bookB us := ⟨_, rfl⟩
                      have HGD := Lib.hid h_gd
                      clear h_gd
                      go_wp2_with fail
                      refine (implBookText_any A4 us.length c4 us _ rfl HR4.out (by omega) hW4.out (fun w' h => HT.out w' (Bw66.out.trans (h.mono Bw66.out.size)))).mono ?_
                      rintro e w67 ⟨rfl, b⟩
                      rw [← HSX.out, ← HGD.out]
                      have Bw67 := Lib.hid (Bw66.out.trans (b.mono Bw66.out.size))
                      have HR4' := Lib.hid (HR4.out.below b)
                      clear HR4
                      have HR4 := HR4'
                      clear HR4'
                      clear b
                      go_wp2_with fail
                      refine (specBookText_any A4 us.length c4 us _ rfl HR4.out (by omega) hW4.out).mono ?_
                      rintro e w68 ⟨rfl, b⟩
                      rw [← HSX.out, ← HGD.out]
                      have Bw68 := Lib.hid (Bw67.out.trans (b.mono Bw67.out.size))
                      clear b
                      go_wp2
                      go_ret
                      exact ⟨by first | rfl | simp, Bw68.out⟩
                    | true =>
                      obtain ⟨f1, f2⟩ := ts_room HKN.out.symm
                      rw [← HDV.out] at f1 f2
                      have F1 : Hid (decide (0 ≤ findV ps d11) = true) := Lib.hid (decide_eq_true f1)
                      obtain ⟨ra, hra⟩ : ∃ ra, ra = restV ps d11 := ⟨_, rfl⟩
                      rw [← hra] at f2
                      have HRA := Lib.hid hra
                      have d1 : decide (ra < z11) = false := by simp; omega
                      clear hra f1
                      go_wp2_with fail
                      refine (implRestOf_any A11 ps.length c11 ps d11 _ rfl HR11.out (by omega) hW11.out).mono ?_
                      rintro e w69 ⟨rfl, b⟩
                      rw [F1.out, ← HRA.out]
                      have Bw69 := Lib.hid (Bw66.out.trans (b.mono Bw66.out.size))
                      have HR4' := Lib.hid (HR4.out.below b)
                      clear HR4
                      have HR4 := HR4'
                      clear HR4'
                      have HR11' := Lib.hid (HR11.out.below b)
                      clear HR11
                      have HR11 := HR11'
                      clear HR11'
                      clear b
                      obtain ⟨sx, h_sx⟩ : ∃ sx, sx = bkV us := ⟨_, rfl⟩
                      have HSX := Lib.hid h_sx
                      clear h_sx
                      obtain ⟨gd, h_gd⟩ : ∃ gd, gd = bookB us := ⟨_, rfl⟩
                      have HGD := Lib.hid h_gd
                      clear h_gd
                      go_wp2_with fail
                      refine (implBookText_any A4 us.length c4 us _ rfl HR4.out (by omega) hW4.out (fun w' h => HT.out w' (Bw69.out.trans (h.mono Bw69.out.size)))).mono ?_
                      rintro e w70 ⟨rfl, b⟩
                      rw [← HSX.out, ← HGD.out]
                      have Bw70 := Lib.hid (Bw69.out.trans (b.mono Bw69.out.size))
                      have HR4' := Lib.hid (HR4.out.below b)
                      clear HR4
                      have HR4 := HR4'
                      clear HR4'
                      clear b
                      go_wp2_with fail
                      refine (specBookText_any A4 us.length c4 us _ rfl HR4.out (by omega) hW4.out).mono ?_
                      rintro e w71 ⟨rfl, b⟩
                      rw [← HSX.out, ← HGD.out]
                      have Bw71 := Lib.hid (Bw70.out.trans (b.mono Bw70.out.size))
                      clear b
                      go_wp2
                      go_ret
                      exact ⟨by first | rfl | simp, Bw71.out⟩
                  | true =>
                    obtain ⟨f1, f2⟩ := sw_twice HTD.out.symm
                    rw [← HRV.out] at f1 f2
                    have F1 := Lib.hid f1
                    have F2 := Lib.hid f2
                    clear f1 f2
                    go_wp2_with fail
                    refine (implSwapStrips_any A8 R.length c8 R x7 y7 _ rfl HR8.out hRn hWR.out).mono ?_
                    rintro e w72 ⟨v10, vs10, rfl, o, b⟩
                    rw [F1.out]
                    rw [F2.out] at o
                    obtain ⟨A10, c10, rfl⟩ := own_form o.2.1
                    have Bw72 := Lib.hid (Bw63.out.trans (b.mono Bw63.out.size))
                    have HR4' := Lib.hid (HR4.out.below b)
                    clear HR4
                    have HR4 := HR4'
                    clear HR4'
                    have HR7' := Lib.hid (HR7.out.below b)
                    clear HR7
                    have HR7 := HR7'
                    clear HR7'
                    have HR8' := Lib.hid (HR8.out.below b)
                    clear HR8
                    have HR8 := HR8'
                    clear HR8'
                    have HR10 := Lib.hid o.rd2
                    clear o b
                    go_wp2_with fail
                    refine (rBooks_same _ _ _ _ _ qs _ rfl HR10.out HR7.out (by omega) hW7.out).mono ?_
                    rintro e w73 ⟨rfl, b⟩
                    have Bw73 := Lib.hid (Bw72.out.trans (b.mono Bw72.out.size))
                    have HR4' := Lib.hid (HR4.out.below b)
                    clear HR4
                    have HR4 := HR4'
                    clear HR4'
                    clear b
                    go_wp2_with fail
                    refine (D4.out _ (HY.out.below Bw73.out)).mono ?_
                    rintro e w74 ⟨v11, ps, z11, rfl, hl, b⟩
                    have Bw74 := Lib.hid (Bw73.out.trans (b.mono Bw73.out.size))
                    have HR4' := Lib.hid (HR4.out.below b)
                    clear HR4
                    have HR4 := HR4'
                    clear HR4'
                    obtain ⟨A11, c11, rfl, r11, -, -⟩ := hl.form
                    have hl11 := hl.len
                    have hw11 := Lib.hid hl.wid
                    have HR11 := Lib.hid r11
                    clear r11 hl b
                    have hW11 : Hid (∀ x ∈ ps, x.ws.length ≤ 1048576) := Lib.hid (fun x hx => by have := hw11.out x hx; omega)
                    clear hw11
                    obtain ⟨d11, h_d11⟩ : ∃ d11, d11 = tsV ps z11 := ⟨_, rfl⟩
                    have HDV := Lib.hid h_d11
                    clear h_d11
                    obtain ⟨kn, h_kn⟩ : ∃ kn, kn = tsB ps z11 := ⟨_, rfl⟩
                    have HKN := Lib.hid h_kn
                    clear h_kn
                    have hdd11 : (d11 != d11) = false := by simp
                    go_wp2_with fail
                    refine (implTightStrip_any A11 ps.length c11 ps z11 _ rfl HR11.out (by omega) hW11.out).mono ?_
                    rintro e w75 ⟨rfl, b⟩
                    rw [← HDV.out, ← HKN.out]
                    have Bw75 := Lib.hid (Bw74.out.trans (b.mono Bw74.out.size))
                    have HR4' := Lib.hid (HR4.out.below b)
                    clear HR4
                    have HR4 := HR4'
                    clear HR4'
                    have HR11' := Lib.hid (HR11.out.below b)
                    clear HR11
                    have HR11 := HR11'
                    clear HR11'
                    clear b
                    go_wp2_with fail
                    refine (specTightStrip_any A11 ps.length c11 ps z11 _ rfl HR11.out (by omega) hW11.out).mono ?_
                    rintro e w76 ⟨rfl, b⟩
                    rw [← HDV.out, ← HKN.out]
                    have Bw76 := Lib.hid (Bw75.out.trans (b.mono Bw75.out.size))
                    have HR4' := Lib.hid (HR4.out.below b)
                    clear HR4
                    have HR4 := HR4'
                    clear HR4'
                    have HR11' := Lib.hid (HR11.out.below b)
                    clear HR11
                    have HR11 := HR11'
                    clear HR11'
                    clear b
                    cases kn with
                    | false =>
                      obtain ⟨sx, h_sx⟩ : ∃ sx, sx = bkV us := ⟨_, rfl⟩
                      have HSX := Lib.hid h_sx
                      clear h_sx
                      obtain ⟨gd, h_gd⟩ : ∃ gd, gd = bookB us := ⟨_, rfl⟩
                      have HGD := Lib.hid h_gd
                      clear h_gd
                      go_wp2_with fail
                      refine (implBookText_any A4 us.length c4 us _ rfl HR4.out (by omega) hW4.out (fun w' h => HT.out w' (Bw76.out.trans (h.mono Bw76.out.size)))).mono ?_
                      rintro e w77 ⟨rfl, b⟩
                      rw [← HSX.out, ← HGD.out]
                      have Bw77 := Lib.hid (Bw76.out.trans (b.mono Bw76.out.size))
                      have HR4' := Lib.hid (HR4.out.below b)
                      clear HR4
                      have HR4 := HR4'
                      clear HR4'
                      clear b
                      go_wp2_with fail
                      refine (specBookText_any A4 us.length c4 us _ rfl HR4.out (by omega) hW4.out).mono ?_
                      rintro e w78 ⟨rfl, b⟩
                      rw [← HSX.out, ← HGD.out]
                      have Bw78 := Lib.hid (Bw77.out.trans (b.mono Bw77.out.size))
                      clear b
                      go_wp2
                      go_ret
                      exact ⟨by first | rfl | simp, Bw78.out⟩
                    | true =>
                      obtain ⟨f1, f2⟩ := ts_room HKN.out.symm
                      rw [← HDV.out] at f1 f2
                      have F1 : Hid (decide (0 ≤ findV ps d11) = true) := Lib.hid (decide_eq_true f1)
                      obtain ⟨ra, hra⟩ : ∃ ra, ra = restV ps d11 := ⟨_, rfl⟩
                      rw [← hra] at f2
                      have HRA := Lib.hid hra
                      have d1 : decide (ra < z11) = false := by simp; omega
                      clear hra f1
                      go_wp2_with fail
                      refine (implRestOf_any A11 ps.length c11 ps d11 _ rfl HR11.out (by omega) hW11.out).mono ?_
                      rintro e w79 ⟨rfl, b⟩
                      rw [F1.out, ← HRA.out]
                      have Bw79 := Lib.hid (Bw76.out.trans (b.mono Bw76.out.size))
                      have HR4' := Lib.hid (HR4.out.below b)
                      clear HR4
                      have HR4 := HR4'
                      clear HR4'
                      have HR11' := Lib.hid (HR11.out.below b)
                      clear HR11
                      have HR11 := HR11'
                      clear HR11'
                      clear b
                      obtain ⟨sx, h_sx⟩ : ∃ sx, sx = bkV us := ⟨_, rfl⟩
                      have HSX := Lib.hid h_sx
                      clear h_sx
                      obtain ⟨gd, h_gd⟩ : ∃ gd, gd = bookB us := ⟨_, rfl⟩
                      have HGD := Lib.hid h_gd
                      clear h_gd
                      go_wp2_with fail
                      refine (implBookText_any A4 us.length c4 us _ rfl HR4.out (by omega) hW4.out (fun w' h => HT.out w' (Bw79.out.trans (h.mono Bw79.out.size)))).mono ?_
                      rintro e w80 ⟨rfl, b⟩
                      rw [← HSX.out, ← HGD.out]
                      have Bw80 := Lib.hid (Bw79.out.trans (b.mono Bw79.out.size))
                      have HR4' := Lib.hid (HR4.out.below b)
                      clear HR4
                      have HR4 := HR4'
                      clear HR4'
                      clear b
                      go_wp2_with fail
                      refine (specBookText_any A4 us.length c4 us _ rfl HR4.out (by omega) hW4.out).mono ?_
                      rintro e w81 ⟨rfl, b⟩
                      rw [← HSX.out, ← HGD.out]
                      have Bw81 := Lib.hid (Bw80.out.trans (b.mono Bw80.out.size))
                      clear b
                      go_wp2
                      go_ret
                      exact ⟨by first | rfl | simp, Bw81.out⟩
                | true =>
                  obtain ⟨f1, f2, f3, f4⟩ := sb_facts HFI.out.symm
                  rw [← HE.out] at f2 f3 f4
                  have G1 := Lib.hid f1
                  have G2 := Lib.hid f2
                  have G3 := Lib.hid f3
                  have hEl : E.length = us.length := f4
                  have HEL := Lib.hid hEl
                  have hx8 := (bookB_yes f1).2
                  clear f1 f2 f3 f4 hEl
                  go_wp2_with fail
                  go_loopw [22, 23, 24] (fun a b i wr => ∃ t : Nat, i = .int .i64 t ∧ t ≤ us.length ∧ a = .int .i64 (totB (us.take t)) ∧ b = .int .i64 (totB (E.take t)) ∧ w59 = wr) (fun a b i _ => us.length - (intOf i).toNat)
                  case atStart => exact ⟨0, rfl, by omega, by simp [totB], by simp [totB], rfl⟩
                  case round =>
                    obtain ⟨t, rfl, ht, rfl, rfl, rfl⟩ := hrel
                    have bT := totB_take_bd (bookB_rows G1.out) t (bookB_yes G1.out).2
                    obtain ⟨T, hT⟩ : ∃ T, T = totB (us.take t) := ⟨_, rfl⟩
                    rw [← hT] at bT ⊢
                    have HTT := Lib.hid hT
                    clear hT
                    have bU := totB_take_bd (bookB_rows G2.out) t (bookB_yes G2.out).2
                    obtain ⟨U, hU⟩ : ∃ U, U = totB (E.take t) := ⟨_, rfl⟩
                    rw [← hU] at bU ⊢
                    have HUU := Lib.hid hU
                    clear hU
                    by_cases htl : t < us.length
                    · have htl' : (t : Int) < (us.length : Int) := by omega
                      have ht0 : (0 : Int) ≤ (t : Int) := by omega
                      have htE : t < E.length := by have := HEL.out; omega
                      have htE' : (t : Int) < (E.length : Int) := by omega
                      obtain ⟨x, ex⟩ : ∃ x, us[t]? = some x := ⟨_, List.getElem?_eq_getElem htl⟩
                      have hstx := totB_take ex
                      rw [← HTT.out] at hstx
                      have b2x := totB_take_bd (bookB_rows G1.out) (t + 1) (bookB_yes G1.out).2
                      rw [hstx] at b2x
                      have hrx := rowB_yes (bookB_rows G1.out x (List.mem_of_getElem? ex))
                      have bbx := sum_bd hrx.1
                      have hnx := hrx.2.1
                      obtain ⟨gx, ox, Bx, c0x, eAx, hgx, -, czx, -, -, rzx⟩ := HR4.out.at ex
                      subst eAx
                      obtain ⟨sx, hsx⟩ : ∃ sx, sx = x.ws.sum := ⟨_, rfl⟩
                      rw [← hsx] at hstx b2x bbx
                      have HWx : Hid (wrap64 x.ws.sum = sx) := Lib.hid (by rw [← hsx]; unfold wrap64; omega)
                      have HSTx := Lib.hid hstx
                      have HRZx := Lib.hid rzx
                      clear ex hrx hsx hstx rzx
                      obtain ⟨y, ey⟩ : ∃ y, E[t]? = some y := ⟨_, List.getElem?_eq_getElem htE⟩
                      have hsty := totB_take ey
                      rw [← HUU.out] at hsty
                      have b2y := totB_take_bd (bookB_rows G2.out) (t + 1) (bookB_yes G2.out).2
                      rw [hsty] at b2y
                      have hry := rowB_yes (bookB_rows G2.out y (List.mem_of_getElem? ey))
                      have bby := sum_bd hry.1
                      have hny := hry.2.1
                      obtain ⟨gy, oy, By, c0y, eAy, hgy, -, czy, -, -, rzy⟩ := HR5.out.at ey
                      subst eAy
                      obtain ⟨sy, hsy⟩ : ∃ sy, sy = y.ws.sum := ⟨_, rfl⟩
                      rw [← hsy] at hsty b2y bby
                      have HWy : Hid (wrap64 y.ws.sum = sy) := Lib.hid (by rw [← hsy]; unfold wrap64; omega)
                      have HSTy := Lib.hid hsty
                      have HRZy := Lib.hid rzy
                      clear ey hry hsy hsty rzy
                      go_wp2_with fail
                      refine (rSum_any Bx x.ws.length c0x x.ws _ rfl HRZx.out (by omega)).mono ?_
                      rintro e wb ⟨rfl, rfl⟩
                      rw [HWx.out]
                      go_wp2_with fail
                      refine (rSum_any By y.ws.length c0y y.ws _ rfl HRZy.out (by omega)).mono ?_
                      rintro e wb ⟨rfl, rfl⟩
                      rw [HWy.out]
                      go_wp2
                      go_roundw
                      case rel => exact ⟨t + 1, by go_num, by omega, by (rw [HSTx.out] <;> go_num), by (rw [HSTy.out] <;> go_num), by first | rfl | trivial⟩
                      case measure => simp [intOf]; omega
                    · obtain rfl : t = us.length := by omega
                      have hTe : T = U := by have h1 := HTT.out; have h2 := HUU.out; rw [List.take_length] at h1; rw [← HEL.out, List.take_length] at h2; rw [h1, h2, G3.out]
                      subst hTe
                      clear HTT HUU bU
                      have hUU : (T != T) = false := by simp
                      go_wp2_with fail
                      refine (implIsStockBook_any A5 E.length c5 E _ rfl HR5.out hEn hWE.out).mono ?_
                      rintro e w82 ⟨rfl, b⟩
                      rw [G2.out]
                      have Bw82 := Lib.hid (Bw59.out.trans (b.mono Bw59.out.size))
                      have HR4' := Lib.hid (HR4.out.below b)
                      clear HR4
                      have HR4 := HR4'
                      clear HR4'
                      clear b
                      go_wp2_with fail
                      refine (D3.out _ (HY.out.below Bw82.out)).mono ?_
                      rintro e w83 ⟨v7, qs, x7, y7, rfl, hl, b⟩
                      have Bw83 := Lib.hid (Bw82.out.trans (b.mono Bw82.out.size))
                      have HR4' := Lib.hid (HR4.out.below b)
                      clear HR4
                      have HR4 := HR4'
                      clear HR4'
                      obtain ⟨A7, c7, rfl, r7, -, -⟩ := hl.form
                      have hl7 := hl.len
                      have hw7 := Lib.hid hl.wid
                      have HR7 := Lib.hid r7
                      clear r7 hl b
                      have hW7 : Hid (∀ x ∈ qs, x.ws.length ≤ 1048576) := Lib.hid (fun x hx => by have := hw7.out x hx; omega)
                      clear hw7
                      obtain ⟨told, h_told⟩ : ∃ told, told = swB qs x7 y7 := ⟨_, rfl⟩
                      have HTD := Lib.hid h_told
                      clear h_told
                      obtain ⟨R, h_R⟩ : ∃ R, R = swV qs x7 y7 := ⟨_, rfl⟩
                      have HRV := Lib.hid h_R
                      clear h_R
                      have HRS : Hid (smallB R) := Lib.hid (by rw [HRV.out]; exact sw_small qs x7 y7)
                      have hRn := smallB_n HRS.out
                      have hWR := Lib.hid (smallB_w HRS.out)
                      go_wp2_with fail
                      refine (implSwapStrips_any A7 qs.length c7 qs x7 y7 _ rfl HR7.out (by omega) hW7.out).mono ?_
                      rintro e w84 ⟨v8, vs8, rfl, o, b⟩
                      rw [← HTD.out]
                      rw [← HRV.out] at o
                      obtain ⟨A8, c8, rfl⟩ := own_form o.2.1
                      have Bw84 := Lib.hid (Bw83.out.trans (b.mono Bw83.out.size))
                      have HR4' := Lib.hid (HR4.out.below b)
                      clear HR4
                      have HR4 := HR4'
                      clear HR4'
                      have HR7' := Lib.hid (HR7.out.below b)
                      clear HR7
                      have HR7 := HR7'
                      clear HR7'
                      have HR8 := Lib.hid o.rd2
                      clear o b
                      go_wp2_with fail
                      refine (specSwapStrips_any A7 qs.length c7 qs x7 y7 _ rfl HR7.out (by omega) hW7.out).mono ?_
                      rintro e w85 ⟨v9, vs9, rfl, o, b⟩
                      rw [← HTD.out]
                      rw [← HRV.out] at o
                      obtain ⟨A9, c9, rfl⟩ := own_form o.2.1
                      have Bw85 := Lib.hid (Bw84.out.trans (b.mono Bw84.out.size))
                      have HR4' := Lib.hid (HR4.out.below b)
                      clear HR4
                      have HR4 := HR4'
                      clear HR4'
                      have HR7' := Lib.hid (HR7.out.below b)
                      clear HR7
                      have HR7 := HR7'
                      clear HR7'
                      have HR8' := Lib.hid (HR8.out.below b)
                      clear HR8
                      have HR8 := HR8'
                      clear HR8'
                      have HR9 := Lib.hid o.rd2
                      clear o b
                      go_wp2_with fail
                      refine (rBooks_same _ _ _ _ _ R _ rfl HR8.out HR9.out hRn hWR.out).mono ?_
                      rintro e w86 ⟨rfl, b⟩
                      have Bw86 := Lib.hid (Bw85.out.trans (b.mono Bw85.out.size))
                      have HR4' := Lib.hid (HR4.out.below b)
                      clear HR4
                      have HR4 := HR4'
                      clear HR4'
                      have HR7' := Lib.hid (HR7.out.below b)
                      clear HR7
                      have HR7 := HR7'
                      clear HR7'
                      have HR8' := Lib.hid (HR8.out.below b)
                      clear HR8
                      have HR8 := HR8'
                      clear HR8'
                      clear b
                      cases told with
                      | false =>
                        go_wp2_with fail
                        refine (D4.out _ (HY.out.below Bw86.out)).mono ?_
                        rintro e w87 ⟨v11, ps, z11, rfl, hl, b⟩
                        have Bw87 := Lib.hid (Bw86.out.trans (b.mono Bw86.out.size))
                        have HR4' := Lib.hid (HR4.out.below b)
                        clear HR4
                        have HR4 := HR4'
                        clear HR4'
                        obtain ⟨A11, c11, rfl, r11, -, -⟩ := hl.form
                        have hl11 := hl.len
                        have hw11 := Lib.hid hl.wid
                        have HR11 := Lib.hid r11
                        clear r11 hl b
                        have hW11 : Hid (∀ x ∈ ps, x.ws.length ≤ 1048576) := Lib.hid (fun x hx => by have := hw11.out x hx; omega)
                        clear hw11
                        obtain ⟨d11, h_d11⟩ : ∃ d11, d11 = tsV ps z11 := ⟨_, rfl⟩
                        have HDV := Lib.hid h_d11
                        clear h_d11
                        obtain ⟨kn, h_kn⟩ : ∃ kn, kn = tsB ps z11 := ⟨_, rfl⟩
                        have HKN := Lib.hid h_kn
                        clear h_kn
                        have hdd11 : (d11 != d11) = false := by simp
                        go_wp2_with fail
                        refine (implTightStrip_any A11 ps.length c11 ps z11 _ rfl HR11.out (by omega) hW11.out).mono ?_
                        rintro e w88 ⟨rfl, b⟩
                        rw [← HDV.out, ← HKN.out]
                        have Bw88 := Lib.hid (Bw87.out.trans (b.mono Bw87.out.size))
                        have HR4' := Lib.hid (HR4.out.below b)
                        clear HR4
                        have HR4 := HR4'
                        clear HR4'
                        have HR11' := Lib.hid (HR11.out.below b)
                        clear HR11
                        have HR11 := HR11'
                        clear HR11'
                        clear b
                        go_wp2_with fail
                        refine (specTightStrip_any A11 ps.length c11 ps z11 _ rfl HR11.out (by omega) hW11.out).mono ?_
                        rintro e w89 ⟨rfl, b⟩
                        rw [← HDV.out, ← HKN.out]
                        have Bw89 := Lib.hid (Bw88.out.trans (b.mono Bw88.out.size))
                        have HR4' := Lib.hid (HR4.out.below b)
                        clear HR4
                        have HR4 := HR4'
                        clear HR4'
                        have HR11' := Lib.hid (HR11.out.below b)
                        clear HR11
                        have HR11 := HR11'
                        clear HR11'
                        clear b
                        cases kn with
                        | false =>
                          obtain ⟨sx, h_sx⟩ : ∃ sx, sx = bkV us := ⟨_, rfl⟩
                          have HSX := Lib.hid h_sx
                          clear h_sx
                          obtain ⟨gd, h_gd⟩ : ∃ gd, gd = bookB us := ⟨_, rfl⟩
                          have HGD := Lib.hid h_gd
                          clear h_gd
                          go_wp2_with fail
                          refine (implBookText_any A4 us.length c4 us _ rfl HR4.out (by omega) hW4.out (fun w' h => HT.out w' (Bw89.out.trans (h.mono Bw89.out.size)))).mono ?_
                          rintro e w90 ⟨rfl, b⟩
                          rw [← HSX.out, ← HGD.out]
                          have Bw90 := Lib.hid (Bw89.out.trans (b.mono Bw89.out.size))
                          have HR4' := Lib.hid (HR4.out.below b)
                          clear HR4
                          have HR4 := HR4'
                          clear HR4'
                          clear b
                          go_wp2_with fail
                          refine (specBookText_any A4 us.length c4 us _ rfl HR4.out (by omega) hW4.out).mono ?_
                          rintro e w91 ⟨rfl, b⟩
                          rw [← HSX.out, ← HGD.out]
                          have Bw91 := Lib.hid (Bw90.out.trans (b.mono Bw90.out.size))
                          clear b
                          go_wp2
                          go_ret
                          exact ⟨by first | rfl | simp, Bw91.out⟩
                        | true =>
                          obtain ⟨f1, f2⟩ := ts_room HKN.out.symm
                          rw [← HDV.out] at f1 f2
                          have F1 : Hid (decide (0 ≤ findV ps d11) = true) := Lib.hid (decide_eq_true f1)
                          obtain ⟨ra, hra⟩ : ∃ ra, ra = restV ps d11 := ⟨_, rfl⟩
                          rw [← hra] at f2
                          have HRA := Lib.hid hra
                          have d1 : decide (ra < z11) = false := by simp; omega
                          clear hra f1
                          go_wp2_with fail
                          refine (implRestOf_any A11 ps.length c11 ps d11 _ rfl HR11.out (by omega) hW11.out).mono ?_
                          rintro e w92 ⟨rfl, b⟩
                          rw [F1.out, ← HRA.out]
                          have Bw92 := Lib.hid (Bw89.out.trans (b.mono Bw89.out.size))
                          have HR4' := Lib.hid (HR4.out.below b)
                          clear HR4
                          have HR4 := HR4'
                          clear HR4'
                          have HR11' := Lib.hid (HR11.out.below b)
                          clear HR11
                          have HR11 := HR11'
                          clear HR11'
                          clear b
                          obtain ⟨sx, h_sx⟩ : ∃ sx, sx = bkV us := ⟨_, rfl⟩
                          have HSX := Lib.hid h_sx
                          clear h_sx
                          obtain ⟨gd, h_gd⟩ : ∃ gd, gd = bookB us := ⟨_, rfl⟩
                          have HGD := Lib.hid h_gd
                          clear h_gd
                          go_wp2_with fail
                          refine (implBookText_any A4 us.length c4 us _ rfl HR4.out (by omega) hW4.out (fun w' h => HT.out w' (Bw92.out.trans (h.mono Bw92.out.size)))).mono ?_
                          rintro e w93 ⟨rfl, b⟩
                          rw [← HSX.out, ← HGD.out]
                          have Bw93 := Lib.hid (Bw92.out.trans (b.mono Bw92.out.size))
                          have HR4' := Lib.hid (HR4.out.below b)
                          clear HR4
                          have HR4 := HR4'
                          clear HR4'
                          clear b
                          go_wp2_with fail
                          refine (specBookText_any A4 us.length c4 us _ rfl HR4.out (by omega) hW4.out).mono ?_
                          rintro e w94 ⟨rfl, b⟩
                          rw [← HSX.out, ← HGD.out]
                          have Bw94 := Lib.hid (Bw93.out.trans (b.mono Bw93.out.size))
                          clear b
                          go_wp2
                          go_ret
                          exact ⟨by first | rfl | simp, Bw94.out⟩
                      | true =>
                        obtain ⟨f1, f2⟩ := sw_twice HTD.out.symm
                        rw [← HRV.out] at f1 f2
                        have F1 := Lib.hid f1
                        have F2 := Lib.hid f2
                        clear f1 f2
                        go_wp2_with fail
                        refine (implSwapStrips_any A8 R.length c8 R x7 y7 _ rfl HR8.out hRn hWR.out).mono ?_
                        rintro e w95 ⟨v10, vs10, rfl, o, b⟩
                        rw [F1.out]
                        rw [F2.out] at o
                        obtain ⟨A10, c10, rfl⟩ := own_form o.2.1
                        have Bw95 := Lib.hid (Bw86.out.trans (b.mono Bw86.out.size))
                        have HR4' := Lib.hid (HR4.out.below b)
                        clear HR4
                        have HR4 := HR4'
                        clear HR4'
                        have HR7' := Lib.hid (HR7.out.below b)
                        clear HR7
                        have HR7 := HR7'
                        clear HR7'
                        have HR8' := Lib.hid (HR8.out.below b)
                        clear HR8
                        have HR8 := HR8'
                        clear HR8'
                        have HR10 := Lib.hid o.rd2
                        clear o b
                        go_wp2_with fail
                        refine (rBooks_same _ _ _ _ _ qs _ rfl HR10.out HR7.out (by omega) hW7.out).mono ?_
                        rintro e w96 ⟨rfl, b⟩
                        have Bw96 := Lib.hid (Bw95.out.trans (b.mono Bw95.out.size))
                        have HR4' := Lib.hid (HR4.out.below b)
                        clear HR4
                        have HR4 := HR4'
                        clear HR4'
                        clear b
                        go_wp2_with fail
                        refine (D4.out _ (HY.out.below Bw96.out)).mono ?_
                        rintro e w97 ⟨v11, ps, z11, rfl, hl, b⟩
                        have Bw97 := Lib.hid (Bw96.out.trans (b.mono Bw96.out.size))
                        have HR4' := Lib.hid (HR4.out.below b)
                        clear HR4
                        have HR4 := HR4'
                        clear HR4'
                        obtain ⟨A11, c11, rfl, r11, -, -⟩ := hl.form
                        have hl11 := hl.len
                        have hw11 := Lib.hid hl.wid
                        have HR11 := Lib.hid r11
                        clear r11 hl b
                        have hW11 : Hid (∀ x ∈ ps, x.ws.length ≤ 1048576) := Lib.hid (fun x hx => by have := hw11.out x hx; omega)
                        clear hw11
                        obtain ⟨d11, h_d11⟩ : ∃ d11, d11 = tsV ps z11 := ⟨_, rfl⟩
                        have HDV := Lib.hid h_d11
                        clear h_d11
                        obtain ⟨kn, h_kn⟩ : ∃ kn, kn = tsB ps z11 := ⟨_, rfl⟩
                        have HKN := Lib.hid h_kn
                        clear h_kn
                        have hdd11 : (d11 != d11) = false := by simp
                        go_wp2_with fail
                        refine (implTightStrip_any A11 ps.length c11 ps z11 _ rfl HR11.out (by omega) hW11.out).mono ?_
                        rintro e w98 ⟨rfl, b⟩
                        rw [← HDV.out, ← HKN.out]
                        have Bw98 := Lib.hid (Bw97.out.trans (b.mono Bw97.out.size))
                        have HR4' := Lib.hid (HR4.out.below b)
                        clear HR4
                        have HR4 := HR4'
                        clear HR4'
                        have HR11' := Lib.hid (HR11.out.below b)
                        clear HR11
                        have HR11 := HR11'
                        clear HR11'
                        clear b
                        go_wp2_with fail
                        refine (specTightStrip_any A11 ps.length c11 ps z11 _ rfl HR11.out (by omega) hW11.out).mono ?_
                        rintro e w99 ⟨rfl, b⟩
                        rw [← HDV.out, ← HKN.out]
                        have Bw99 := Lib.hid (Bw98.out.trans (b.mono Bw98.out.size))
                        have HR4' := Lib.hid (HR4.out.below b)
                        clear HR4
                        have HR4 := HR4'
                        clear HR4'
                        have HR11' := Lib.hid (HR11.out.below b)
                        clear HR11
                        have HR11 := HR11'
                        clear HR11'
                        clear b
                        cases kn with
                        | false =>
                          obtain ⟨sx, h_sx⟩ : ∃ sx, sx = bkV us := ⟨_, rfl⟩
                          have HSX := Lib.hid h_sx
                          clear h_sx
                          obtain ⟨gd, h_gd⟩ : ∃ gd, gd = bookB us := ⟨_, rfl⟩
                          have HGD := Lib.hid h_gd
                          clear h_gd
                          go_wp2_with fail
                          refine (implBookText_any A4 us.length c4 us _ rfl HR4.out (by omega) hW4.out (fun w' h => HT.out w' (Bw99.out.trans (h.mono Bw99.out.size)))).mono ?_
                          rintro e w100 ⟨rfl, b⟩
                          rw [← HSX.out, ← HGD.out]
                          have Bw100 := Lib.hid (Bw99.out.trans (b.mono Bw99.out.size))
                          have HR4' := Lib.hid (HR4.out.below b)
                          clear HR4
                          have HR4 := HR4'
                          clear HR4'
                          clear b
                          go_wp2_with fail
                          refine (specBookText_any A4 us.length c4 us _ rfl HR4.out (by omega) hW4.out).mono ?_
                          rintro e w101 ⟨rfl, b⟩
                          rw [← HSX.out, ← HGD.out]
                          have Bw101 := Lib.hid (Bw100.out.trans (b.mono Bw100.out.size))
                          clear b
                          go_wp2
                          go_ret
                          exact ⟨by first | rfl | simp, Bw101.out⟩
                        | true =>
                          obtain ⟨f1, f2⟩ := ts_room HKN.out.symm
                          rw [← HDV.out] at f1 f2
                          have F1 : Hid (decide (0 ≤ findV ps d11) = true) := Lib.hid (decide_eq_true f1)
                          obtain ⟨ra, hra⟩ : ∃ ra, ra = restV ps d11 := ⟨_, rfl⟩
                          rw [← hra] at f2
                          have HRA := Lib.hid hra
                          have d1 : decide (ra < z11) = false := by simp; omega
                          clear hra f1
                          go_wp2_with fail
                          refine (implRestOf_any A11 ps.length c11 ps d11 _ rfl HR11.out (by omega) hW11.out).mono ?_
                          rintro e w102 ⟨rfl, b⟩
                          rw [F1.out, ← HRA.out]
                          have Bw102 := Lib.hid (Bw99.out.trans (b.mono Bw99.out.size))
                          have HR4' := Lib.hid (HR4.out.below b)
                          clear HR4
                          have HR4 := HR4'
                          clear HR4'
                          have HR11' := Lib.hid (HR11.out.below b)
                          clear HR11
                          have HR11 := HR11'
                          clear HR11'
                          clear b
                          obtain ⟨sx, h_sx⟩ : ∃ sx, sx = bkV us := ⟨_, rfl⟩
                          have HSX := Lib.hid h_sx
                          clear h_sx
                          obtain ⟨gd, h_gd⟩ : ∃ gd, gd = bookB us := ⟨_, rfl⟩
                          have HGD := Lib.hid h_gd
                          clear h_gd
                          go_wp2_with fail
                          refine (implBookText_any A4 us.length c4 us _ rfl HR4.out (by omega) hW4.out (fun w' h => HT.out w' (Bw102.out.trans (h.mono Bw102.out.size)))).mono ?_
                          rintro e w103 ⟨rfl, b⟩
                          rw [← HSX.out, ← HGD.out]
                          have Bw103 := Lib.hid (Bw102.out.trans (b.mono Bw102.out.size))
                          have HR4' := Lib.hid (HR4.out.below b)
                          clear HR4
                          have HR4 := HR4'
                          clear HR4'
                          clear b
                          go_wp2_with fail
                          refine (specBookText_any A4 us.length c4 us _ rfl HR4.out (by omega) hW4.out).mono ?_
                          rintro e w104 ⟨rfl, b⟩
                          rw [← HSX.out, ← HGD.out]
                          have Bw104 := Lib.hid (Bw103.out.trans (b.mono Bw103.out.size))
                          clear b
                          go_wp2
                          go_ret
                          exact ⟨by first | rfl | simp, Bw104.out⟩

theorem own : ownKnob Tryz.prog.godebug = none := by kernel_rfl
theorem laidOut : laidOutB Tryz.prog = true := by kernel_rfl
set_option maxRecDepth 100000 in
theorem lifted (os : Os) (started : os.Started) (H : Type) (enc : TypeId × Value → H) :
    ReturnsInHanded {} Tryz.checked os 3 .any (fun w args => (Rows.fnFilledSpec.pre enc Tryz.prog Tryz.f3 [] false w args ∧ laidMetH Tryz.prog Rows.fnFilledRow.laid w) ∧ sizedMet enc Tryz.prog Tryz.f3 (OpenSpec.ofChange Rows.fnFilledSpec) false w args)
      (Rows.fnFilledSpec.post enc Tryz.prog Tryz.f3 false true false false) := by
  refine returnsInHanded_of_change_and (C := Tryz.checked) (X := fun w _ => laidMetH Tryz.prog Rows.fnFilledRow.laid w) (fun _ _ _ hh h => h.of_heap hh) own started (by kernel_rfl) Tryz.func3
    (ChangeSpec.witness_shaped (enc := enc) (C := Tryz.checked) (os := os) (X := fun w _ => laidMetH Tryz.prog Rows.fnFilledRow.laid w) false (World.doorLaid Tryz.prog 24 os) #[.slice none 0 0] 8 rfl (World.shaped_of_RefB (by kernel_rfl) (by kernel_rfl)) (by kernel_rfl) (by kernel_rfl) (by kernel_rfl) (door_met os _)) ?_
  intro W base args ds gs before hval0 hW _ _ hL _
  have hval : ∀ (j : Nat) t v, Tryz.f3.params[j]? = some t → args[j]? = some v → Value.okWide Tryz.prog W .any base t v := hval0
  have hW' := hW
  obtain ⟨p, q, hA0, hV, rfl, hfz, hnd⟩ := hW
  have hA : DataW.TrodAll enc Tryz.prog W 0 (fun _ => true) true Tryz.f3.params.toList args.toList ds p := hA0
  rw [Tryz.params3] at hA hval
  obtain ⟨v0, vs0, d0, ds0, p0, q0, hargs, rfl, rfl, h0, r0⟩ := trodAll_cons hA
  obtain ⟨rfl, rfl, rfl⟩ := trodAll_nil r0
  obtain rfl : args = #[v0] := by cases args; simp_all
  obtain ⟨rfl, rfl⟩ := trodVars_none hV
  obtain ⟨a0, len0, cap0, rfl⟩ := okWide_slice Tryz.underlying22 (hval 0 22 v0 rfl rfl)
  have k0 := h0
  have lt0 : ∀ x ∈ p0, x.block < W.heap.size := by obtain ⟨m, hm⟩ := k0; exact DataW.trod_lt m _ _ _ hm
  obtain ⟨zs, hl0, hr0, hm0, hb0⟩ := openU Tryz.underlying22 Tryz.underlying5 (by kernel_rfl) h0
  clear hA0 hval0
  refine (walk a0 len0 cap0 zs W hl0 hr0 hm0 hb0 (tab_below hL)).mono fun e W' ⟨he, bel⟩ => ?_
  subst he
  exact ⟨_, rfl, _, _, _, [], _, [], hW', trodAll_mk1 (shut_bool Tryz.underlying4 _), (trodAll_cons_mk (Below.trod laidOut (by kernel_rfl) (of_decide_eq_true (by kernel_rfl)) k0 bel lt0) trodAll_mk0), rfl, bel.frame _, fun h => by cases h⟩

theorem over : Rows.fnFilledRow.holds Tryz.pinned (OpenSpec.ofChange Rows.fnFilledSpec) :=
  OpenClaim.holds_of_wide 3 Tryz.f3 rfl rfl rfl rfl rfl rfl rfl ⟨rfl, rfl, rfl, rfl, rfl⟩ rfl rfl rfl rfl rfl (by kernel_rfl) Tryz.func3 (by kernel_rfl)
    (of_decide_eq_true (by kernel_rfl)) (by unfold Func.isWrapper; first | (rw [if_pos (by decide +kernel)]; kernel_rfl) | (rw [if_neg (by decide +kernel)]; exact ⟨rfl, rfl⟩))
    (fun os started H enc _ => lifted os started H enc)

theorem proved : Rows.FnFilledCardSaid :=
  Claim7.holds_tied_plain_at .later [] [.data, .data, .data] true Rows.fnFilledCard.stood.harness false
    over (fun _ h => by cases h) (by kernel_rfl) (fun _ h => by cases h) fnFilled_row_tie rfl ⟨rfl, rfl⟩ (by kernel_rfl) rfl
    (fun f fn hf hfn => by
      obtain rfl : f = 3 := Option.some.inj ((show Tryz.prog.funcNamed "loop.example/g01062/laws.FnFilled" = some 3 by kernel_rfl).symm.trans hf) |>.symm
      obtain rfl : fn = Tryz.f3 := (Option.some.inj (Tryz.func3.symm.trans hfn)).symm
      exact ⟨by kernel_rfl, fun j t ht => by
        rw [Tryz.params3] at ht
        have hm : t ∈ [22] := by simpa using Array.mem_of_getElem? ht
        have hall : ([22].all fun u => !Tryz.prog.wantsStandIn u) = true := by kernel_rfl
        exact (show Tryz.prog.wantsStandIn t = false by simpa using List.all_eq_true.1 hall t hm)⟩)
    (by kernel_rfl)
#print axioms proved
end Go.Proofs.YtacacibpehnmgaaGreatDoor.ltFnFilled
