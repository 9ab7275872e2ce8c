/- The law FnBooks returns true for every input: what the program and the reference answer on stock books is the same and agrees with what the law asks. No conditions. -/
import Derived.Test.YtacacibpehnmgaaDrB5
import Derived.Test.YtacacibpehnmgaaBkP
import Derived.Test.YtacacibpehnmgaaStoL
import Derived.Test.YtacacibpehnmgaaStoN
import Derived.Test.YtacacibpehnmgaaStoG
import Derived.Test.YtacacibpehnmgaaStoF
import Derived.Test.YtacacibpehnmgaaStoC
namespace Go.Proofs.Ytacacibpehnmgaa.lwFnBooks
set_option linter.unusedSimpArgs false
open Go.ChangeShapes Go.WideShapes Go.ChangeAt Go.RowKit
set_option linter.unusedVariables false

set_option maxRecDepth 20000 in
set_option maxHeartbeats 16000000 in
theorem walk (B : Option Addr) (n c : Nat) (zs : List Int) (w : World) (hn : zs.length = n) (hB : Rd w B (cellsU zs)) (hm : n ≤ maxLen) (hb : ∀ z ∈ zs, 0 ≤ z ∧ z ≤ 255) :
    Calls Try.prog 3 #[.slice B n c] w (Ret (.bool true) w) := by
  have CB := Lib.hid (fun w => rBig_any B n c w hm)
  by_cases hbig : (65536 : Int) < n
  · rw [show decide ((65536 : Int) < n) = true by simp; omega] at CB
    clear hbig hn
    go_enter Try.func3, Try.ntmps3
    go_wp2_with fail
    refine (CB.out _).mono ?_
    rintro e w1 ⟨rfl, rfl⟩
    go_wp2
    go_ret
    exact ⟨rfl, Below.refl _ _⟩
  rw [show decide ((65536 : Int) < n) = false by simp; omega] at CB
  have HY : Hid (Bytes w B zs) := Lib.hid ⟨hB, hb, by omega⟩
  have HN := Lib.hid hn
  clear hbig hn hB hm hb
  have D1 := Lib.hid (fun w h => drawInsertStamp_any B n c zs w HN.out h)
  have D2 := Lib.hid (fun w h => drawStartsOf_any B n c zs w HN.out h)
  have D3 := Lib.hid (fun w h => drawRemoveStamp_any B n c zs w HN.out h)
  have D4 := Lib.hid (fun w h => drawStampAt_any B n c zs w HN.out h)
  go_enter Try.func3, Try.ntmps3
  go_wp2_with fail
  refine (CB.out _).mono ?_
  rintro e w0 ⟨rfl, rfl⟩
  have HB0 := Lib.hid (Below.refl w.heap.size w)
  go_wp2_with fail
  refine (D1.out _ (HY.out)).mono ?_
  rintro e w1 ⟨v1, xs, id, p, z, rfl, hl, b⟩
  have Bw1 := Lib.hid (HB0.out.trans (b.mono HB0.out.size))
  obtain ⟨A1, c1, rfl, r1, -, -⟩ := hl.form
  have hl1 := hl.len
  have hw1 := Lib.hid hl.wid
  have HR1 := Lib.hid r1
  clear r1 hl b
  have hW1 : Hid (∀ x ∈ xs, x.ws.length ≤ 1048576) := Lib.hid (fun x hx => by have := hw1.out x hx; omega)
  clear hw1
  obtain ⟨ok, h_ok⟩ : ∃ ok, ok = isB xs id p z := ⟨_, rfl⟩
  have HOK := Lib.hid h_ok
  clear h_ok
  obtain ⟨S, h_S⟩ : ∃ S, S = isV xs id p z := ⟨_, rfl⟩
  have HS := Lib.hid h_S
  clear h_S
  have HSM : Hid (smallB S) := Lib.hid (by rw [HS.out]; exact is_small xs id p z)
  have hSn := smallB_n HSM.out
  go_wp2_with fail
  refine (implInsertStamp_any A1 xs.length c1 xs id p z _ rfl HR1.out (by omega) hW1.out).mono ?_
  rintro e w2 ⟨v2, vs2, rfl, o, b⟩
  rw [← HOK.out]
  rw [← HS.out] at o
  obtain ⟨A2, c2, rfl⟩ := own_form o.2.1
  have Bw2 := Lib.hid (Bw1.out.trans (b.mono Bw1.out.size))
  have HR1' := Lib.hid (HR1.out.below b)
  clear HR1
  have HR1 := HR1'
  clear HR1'
  have HR2 := Lib.hid o.rd2
  clear o b
  go_wp2_with fail
  refine (specInsertStamp_any A1 xs.length c1 xs id p z _ rfl HR1.out (by omega) hW1.out).mono ?_
  rintro e w3 ⟨v3, vs3, rfl, o, b⟩
  rw [← HOK.out]
  rw [← HS.out] at o
  obtain ⟨A3, c3, rfl⟩ := own_form o.2.1
  have Bw3 := Lib.hid (Bw2.out.trans (b.mono Bw2.out.size))
  have HR1' := Lib.hid (HR1.out.below b)
  clear HR1
  have HR1 := HR1'
  clear HR1'
  have HR2' := Lib.hid (HR2.out.below b)
  clear HR2
  have HR2 := HR2'
  clear HR2'
  have HR3 := Lib.hid o.rd2
  clear o b
  go_wp2_with fail
  refine (rBooks_same _ _ _ _ _ S _ rfl HR2.out HR3.out hSn (smallB_w HSM.out)).mono ?_
  rintro e w4 ⟨rfl, b⟩
  have Bw4 := Lib.hid (Bw3.out.trans (b.mono Bw3.out.size))
  have HR1' := Lib.hid (HR1.out.below b)
  clear HR1
  have HR1 := HR1'
  clear HR1'
  have HR2' := Lib.hid (HR2.out.below b)
  clear HR2
  have HR2 := HR2'
  clear HR2'
  clear b
  cases ok with
  | false =>
    go_wp2_with fail
    refine (D2.out _ (HY.out.below Bw4.out)).mono ?_
    rintro e w5 ⟨v5, ys, y, rfl, hl, b⟩
    have Bw5 := Lib.hid (Bw4.out.trans (b.mono Bw4.out.size))
    have HR1' := Lib.hid (HR1.out.below b)
    clear HR1
    have HR1 := HR1'
    clear HR1'
    obtain ⟨A5, c5, rfl, r5, -, -⟩ := hl.form
    have hl5 := hl.len
    have hw5 := Lib.hid hl.wid
    have HR5 := Lib.hid r5
    clear r5 hl b
    have hW5 : Hid (∀ x ∈ ys, x.ws.length ≤ 1048576) := Lib.hid (fun x hx => by have := hw5.out x hx; omega)
    clear hw5
    obtain ⟨fine, h_fine⟩ : ∃ fine, fine = decide (0 ≤ findV ys y) := ⟨_, rfl⟩
    have HFI := Lib.hid h_fine
    clear h_fine
    obtain ⟨L, h_L⟩ : ∃ L, L = stV ys y := ⟨_, rfl⟩
    have HL := Lib.hid h_L
    clear h_L
    have hL12 : L.length ≤ 1048576 := by rw [HL.out]; have := st_len ys y; omega
    go_wp2_with fail
    refine (implStartsOf_any A5 ys.length c5 ys y _ rfl HR5.out (by omega) hW5.out).mono ?_
    rintro e w6 ⟨v6, rfl, o, b⟩
    rw [← HFI.out]
    rw [← HL.out] at o
    obtain ⟨A6, c6, rfl⟩ := own_form o
    have Bw6 := Lib.hid (Bw5.out.trans (b.mono Bw5.out.size))
    have HR1' := Lib.hid (HR1.out.below b)
    clear HR1
    have HR1 := HR1'
    clear HR1'
    have HR5' := Lib.hid (HR5.out.below b)
    clear HR5
    have HR5 := HR5'
    clear HR5'
    have HR6 := Lib.hid (Rd.of_own o)
    clear o b
    go_wp2_with fail
    refine (specStartsOf_any A5 ys.length c5 ys y _ rfl HR5.out (by omega) hW5.out).mono ?_
    rintro e w7 ⟨v7, rfl, o, b⟩
    rw [← HFI.out]
    rw [← HL.out] at o
    obtain ⟨A7, c7, rfl⟩ := own_form o
    have Bw7 := Lib.hid (Bw6.out.trans (b.mono Bw6.out.size))
    have HR1' := Lib.hid (HR1.out.below b)
    clear HR1
    have HR1 := HR1'
    clear HR1'
    have HR5' := Lib.hid (HR5.out.below b)
    clear HR5
    have HR5 := HR5'
    clear HR5'
    have HR6' := Lib.hid (HR6.out.below b)
    clear HR6
    have HR6 := HR6'
    clear HR6'
    have HR7 := Lib.hid (Rd.of_own o)
    clear o b
    go_wp2_with fail
    refine (rInts_same _ _ _ _ _ L _ rfl HR6.out HR7.out hL12).mono ?_
    rintro e w8 ⟨rfl, b⟩
    have Bw8 := Lib.hid (Bw7.out.trans (b.mono Bw7.out.size))
    have HR1' := Lib.hid (HR1.out.below b)
    clear HR1
    have HR1 := HR1'
    clear HR1'
    have HR5' := Lib.hid (HR5.out.below b)
    clear HR5
    have HR5 := HR5'
    clear HR5'
    have HR6' := Lib.hid (HR6.out.below b)
    clear HR6
    have HR6 := HR6'
    clear HR6'
    clear b
    go_wp2_with fail
    go_loopw [24, 25, 26] (fun i _ _ wr => ∃ t : Nat, i = .int .i64 t ∧ t ≤ L.length ∧ Below w8.heap.size w8 wr) (fun i _ _ _ => L.length - (intOf i).toNat)
    case atStart => exact ⟨0, rfl, by omega, Below.refl _ _⟩
    case round =>
      obtain ⟨t, rfl, ht, hbw⟩ := hrel
      have HBW := Lib.hid hbw
      have hsw := hbw.size
      clear hbw
      by_cases htl : t < L.length
      · have htl' : (t : Int) < (L.length : Int) := by omega
        obtain ⟨v, ev⟩ : ∃ v, L[t]? = some v := ⟨_, List.getElem?_eq_getElem htl⟩
        obtain ⟨n1, n2, -⟩ := stamp_start (xs := ys) (id := y) (k := t) (s := v) (by rw [← HL.out]; exact ev)
        have N1 := Lib.hid n1
        have N2 := Lib.hid n2
        have htt : ((t : Int) != (t : Int)) = false := by simp
        have ht0 : (0 : Int) ≤ (t : Int) := by omega
        obtain ⟨gz, oz, eAz, hgz, cz⟩ := (HR6.out.below HBW.out).at1 ev
        subst eAz
        have HRw := Lib.hid (HR5.out.below HBW.out)
        clear n1 n2 ev
        go_wp2_with fail
        refine (implStampAt_any A5 ys.length c5 ys y v _ rfl HRw.out (by omega) hW5.out).mono ?_
        rintro e wb ⟨rfl, b⟩
        rw [N1.out, N2.out]
        have HBC := Lib.hid (HBW.out.trans (b.mono HBW.out.size))
        clear cz b HRw
        go_wp2
        go_roundw
        case rel => exact ⟨t + 1, by go_num, by omega, HBC.out⟩
        case measure => simp [intOf]; omega
      · obtain rfl : t = L.length := by omega
        have Bwr := Lib.hid (Bw8.out.trans (HBW.out.mono Bw8.out.size))
        have HR1' := Lib.hid (HR1.out.below HBW.out)
        clear HR1
        have HR1 := HR1'
        clear HR1'
        go_wp2_with fail
        refine (D3.out _ (HY.out.below Bwr.out)).mono ?_
        rintro e w9 ⟨v8, us, y8, n8, rfl, hl, b⟩
        have Bw9 := Lib.hid (Bwr.out.trans (b.mono Bwr.out.size))
        have HR1' := Lib.hid (HR1.out.below b)
        clear HR1
        have HR1 := HR1'
        clear HR1'
        obtain ⟨A8, c8, rfl, r8, -, -⟩ := hl.form
        have hl8 := hl.len
        have hw8 := Lib.hid hl.wid
        have HR8 := Lib.hid r8
        clear r8 hl b
        have hW8 : Hid (∀ x ∈ us, x.ws.length ≤ 1048576) := Lib.hid (fun x hx => by have := hw8.out x hx; omega)
        clear hw8
        obtain ⟨told, h_told⟩ : ∃ told, told = rmB us y8 n8 := ⟨_, rfl⟩
        have HT := Lib.hid h_told
        clear h_told
        obtain ⟨R, h_R⟩ : ∃ R, R = rmV us y8 n8 := ⟨_, rfl⟩
        have HRV := Lib.hid h_R
        clear h_R
        obtain ⟨g8, h_g8⟩ : ∃ g8, g8 = rmW us y8 n8 := ⟨_, rfl⟩
        have HG8 := Lib.hid h_g8
        clear h_g8
        have HRS : Hid (smallB R) := Lib.hid (by rw [HRV.out]; exact rm_small us y8 n8)
        have hRn := smallB_n HRS.out
        have hgg : (g8 != g8) = false := by simp
        go_wp2_with fail
        refine (implRemoveStamp_any A8 us.length c8 us y8 n8 _ rfl HR8.out (by omega) hW8.out).mono ?_
        rintro e w10 ⟨v9, vs9, rfl, o, b⟩
        rw [← HT.out, ← HG8.out]
        rw [← HRV.out] at o
        obtain ⟨A9, c9, rfl⟩ := own_form o.2.1
        have Bw10 := Lib.hid (Bw9.out.trans (b.mono Bw9.out.size))
        have HR1' := Lib.hid (HR1.out.below b)
        clear HR1
        have HR1 := HR1'
        clear HR1'
        have HR8' := Lib.hid (HR8.out.below b)
        clear HR8
        have HR8 := HR8'
        clear HR8'
        have HR9 := Lib.hid o.rd2
        clear o b
        go_wp2_with fail
        refine (specRemoveStamp_any A8 us.length c8 us y8 n8 _ rfl HR8.out (by omega) hW8.out).mono ?_
        rintro e w11 ⟨v10, vs10, rfl, o, b⟩
        rw [← HT.out, ← HG8.out]
        rw [← HRV.out] at o
        obtain ⟨A10, c10, rfl⟩ := own_form o.2.1
        have Bw11 := Lib.hid (Bw10.out.trans (b.mono Bw10.out.size))
        have HR1' := Lib.hid (HR1.out.below b)
        clear HR1
        have HR1 := HR1'
        clear HR1'
        have HR8' := Lib.hid (HR8.out.below b)
        clear HR8
        have HR8 := HR8'
        clear HR8'
        have HR9' := Lib.hid (HR9.out.below b)
        clear HR9
        have HR9 := HR9'
        clear HR9'
        have HR10 := Lib.hid o.rd2
        clear o b
        go_wp2_with fail
        refine (rBooks_same _ _ _ _ _ R _ rfl HR9.out HR10.out hRn (smallB_w HRS.out)).mono ?_
        rintro e w12 ⟨rfl, b⟩
        have Bw12 := Lib.hid (Bw11.out.trans (b.mono Bw11.out.size))
        have HR1' := Lib.hid (HR1.out.below b)
        clear HR1
        have HR1 := HR1'
        clear HR1'
        clear b
        go_wp2_with fail
        refine (D4.out _ (HY.out.below Bw12.out)).mono ?_
        rintro e w13 ⟨v11, ps, z11, at11, rfl, hl, b⟩
        have Bw13 := Lib.hid (Bw12.out.trans (b.mono Bw12.out.size))
        have HR1' := Lib.hid (HR1.out.below b)
        clear HR1
        have HR1 := HR1'
        clear HR1'
        obtain ⟨A11, c11, rfl, r11, -, -⟩ := hl.form
        have hl11 := hl.len
        have hw11 := Lib.hid hl.wid
        have HR11 := Lib.hid r11
        clear r11 hl b
        have hW11 : Hid (∀ x ∈ ps, x.ws.length ≤ 1048576) := Lib.hid (fun x hx => by have := hw11.out x hx; omega)
        clear hw11
        obtain ⟨k11, h_k11⟩ : ∃ k11, k11 = stampV ps z11 at11 := ⟨_, rfl⟩
        have HK11 := Lib.hid h_k11
        clear h_k11
        obtain ⟨kn, h_kn⟩ : ∃ kn, kn = stB ps z11 at11 := ⟨_, rfl⟩
        have HKN := Lib.hid h_kn
        clear h_kn
        obtain ⟨r11, h_r11⟩ : ∃ r11, r11 = restV ps z11 := ⟨_, rfl⟩
        have HR11V := Lib.hid h_r11
        clear h_r11
        obtain ⟨gd, h_gd⟩ : ∃ gd, gd = decide (0 ≤ findV ps z11) := ⟨_, rfl⟩
        have HGD := Lib.hid h_gd
        clear h_gd
        obtain ⟨bk, h_bk⟩ : ∃ bk, bk = bookB xs := ⟨_, rfl⟩
        have HBK := Lib.hid h_bk
        clear h_bk
        go_wp2_with fail
        refine (implStampAt_any A11 ps.length c11 ps z11 at11 _ rfl HR11.out (by omega) hW11.out).mono ?_
        rintro e w14 ⟨rfl, b⟩
        rw [← HK11.out, ← HKN.out]
        have Bw14 := Lib.hid (Bw13.out.trans (b.mono Bw13.out.size))
        have HR1' := Lib.hid (HR1.out.below b)
        clear HR1
        have HR1 := HR1'
        clear HR1'
        have HR11' := Lib.hid (HR11.out.below b)
        clear HR11
        have HR11 := HR11'
        clear HR11'
        clear b
        go_wp2_with fail
        refine (specStampAt_any A11 ps.length c11 ps z11 at11 _ rfl HR11.out (by omega) hW11.out).mono ?_
        rintro e w15 ⟨rfl, b⟩
        rw [← HK11.out, ← HKN.out]
        have Bw15 := Lib.hid (Bw14.out.trans (b.mono Bw14.out.size))
        have HR1' := Lib.hid (HR1.out.below b)
        clear HR1
        have HR1 := HR1'
        clear HR1'
        have HR11' := Lib.hid (HR11.out.below b)
        clear HR11
        have HR11 := HR11'
        clear HR11'
        clear b
        go_wp2_with fail
        refine (implRestOf_any A11 ps.length c11 ps z11 _ rfl HR11.out (by omega) hW11.out).mono ?_
        rintro e w16 ⟨rfl, b⟩
        rw [← HR11V.out, ← HGD.out]
        have Bw16 := Lib.hid (Bw15.out.trans (b.mono Bw15.out.size))
        have HR1' := Lib.hid (HR1.out.below b)
        clear HR1
        have HR1 := HR1'
        clear HR1'
        have HR11' := Lib.hid (HR11.out.below b)
        clear HR11
        have HR11 := HR11'
        clear HR11'
        clear b
        go_wp2_with fail
        refine (specRestOf_any A11 ps.length c11 ps z11 _ rfl HR11.out (by omega) hW11.out).mono ?_
        rintro e w17 ⟨rfl, b⟩
        rw [← HR11V.out, ← HGD.out]
        have Bw17 := Lib.hid (Bw16.out.trans (b.mono Bw16.out.size))
        have HR1' := Lib.hid (HR1.out.below b)
        clear HR1
        have HR1 := HR1'
        clear HR1'
        have HR11' := Lib.hid (HR11.out.below b)
        clear HR11
        have HR11 := HR11'
        clear HR11'
        clear b
        go_wp2_with fail
        refine (implIsStockBook_any A1 xs.length c1 xs _ rfl HR1.out (by omega) hW1.out).mono ?_
        rintro e w18 ⟨rfl, b⟩
        rw [← HBK.out]
        have Bw18 := Lib.hid (Bw17.out.trans (b.mono Bw17.out.size))
        have HR1' := Lib.hid (HR1.out.below b)
        clear HR1
        have HR1 := HR1'
        clear HR1'
        have HR11' := Lib.hid (HR11.out.below b)
        clear HR11
        have HR11 := HR11'
        clear HR11'
        clear b
        go_wp2_with fail
        refine (specIsStockBook_any A1 xs.length c1 xs _ rfl HR1.out (by omega) hW1.out).mono ?_
        rintro e w19 ⟨rfl, b⟩
        rw [← HBK.out]
        have Bw19 := Lib.hid (Bw18.out.trans (b.mono Bw18.out.size))
        have HR1' := Lib.hid (HR1.out.below b)
        clear HR1
        have HR1 := HR1'
        clear HR1'
        have HR11' := Lib.hid (HR11.out.below b)
        clear HR11
        have HR11 := HR11'
        clear HR11'
        clear b
        go_wp2
        go_ret
        exact ⟨by first | rfl | simp, Bw19.out⟩
  | true =>
    obtain ⟨f1, f2, f3, f4, f5, f6, f7⟩ := ins_facts HOK.out.symm
    rw [← HS.out] at f1 f2 f3 f5 f6 f7
    have hWS := Lib.hid (smallB_w HSM.out)
    have F1 := Lib.hid f1
    have F2 := Lib.hid f2
    have F3 := Lib.hid f3
    have F4 : Hid (decide (0 ≤ findV xs id) = true) := Lib.hid (decide_eq_true f4)
    have F5 : Hid (decide (0 ≤ findV S id) = true) := Lib.hid (decide_eq_true f5)
    have rb1 := rest_bd xs id
    have rb2 := rest_bd S id
    obtain ⟨ra, hra⟩ : ∃ ra, ra = restV xs id := ⟨_, rfl⟩
    obtain ⟨rb, hrb⟩ : ∃ rb, rb = restV S id := ⟨_, rfl⟩
    rw [← hra] at f6 f7 rb1
    rw [← hrb] at f6 f7 rb2
    have HRA := Lib.hid hra
    have HRB := Lib.hid hrb
    clear f1 f2 f3 f4 f5 hra hrb
    go_wp2_with fail
    refine (implRemoveStamp_any A2 S.length c2 S id p _ rfl HR2.out hSn hWS.out).mono ?_
    rintro e w20 ⟨v4, vs4, rfl, o, b⟩
    rw [F1.out, F3.out]
    rw [F2.out] at o
    obtain ⟨A4, c4, rfl⟩ := own_form o.2.1
    have Bw20 := Lib.hid (Bw4.out.trans (b.mono Bw4.out.size))
    have HR1' := Lib.hid (HR1.out.below b)
    clear HR1
    have HR1 := HR1'
    clear HR1'
    have HR2' := Lib.hid (HR2.out.below b)
    clear HR2
    have HR2 := HR2'
    clear HR2'
    have HR4 := Lib.hid o.rd2
    clear o b
    go_wp2_with fail
    refine (implRestOf_any A1 xs.length c1 xs id _ rfl HR1.out (by omega) hW1.out).mono ?_
    rintro e w21 ⟨rfl, b⟩
    rw [F4.out, ← HRA.out]
    have Bw21 := Lib.hid (Bw20.out.trans (b.mono Bw20.out.size))
    have HR1' := Lib.hid (HR1.out.below b)
    clear HR1
    have HR1 := HR1'
    clear HR1'
    have HR2' := Lib.hid (HR2.out.below b)
    clear HR2
    have HR2 := HR2'
    clear HR2'
    have HR4' := Lib.hid (HR4.out.below b)
    clear HR4
    have HR4 := HR4'
    clear HR4'
    clear b
    go_wp2_with fail
    refine (implRestOf_any A2 S.length c2 S id _ rfl HR2.out hSn hWS.out).mono ?_
    rintro e w22 ⟨rfl, b⟩
    rw [F5.out, ← HRB.out]
    have Bw22 := Lib.hid (Bw21.out.trans (b.mono Bw21.out.size))
    have HR1' := Lib.hid (HR1.out.below b)
    clear HR1
    have HR1 := HR1'
    clear HR1'
    have HR2' := Lib.hid (HR2.out.below b)
    clear HR2
    have HR2 := HR2'
    clear HR2'
    have HR4' := Lib.hid (HR4.out.below b)
    clear HR4
    have HR4 := HR4'
    clear HR4'
    clear b
    have hzz : (z != z) = false := by simp
    have hw1 : IntKind.i64.wrap (ra - rb) = ra - rb := IntWalk.i64_in _ (by omega)
    have hw2 : IntKind.i64.wrap (z + 2) = z + 2 := IntWalk.i64_in _ (by omega)
    have d1 : decide (ra - rb < z) = false := by simp; omega
    have d2 : decide (z + 2 < ra - rb) = false := by simp; omega
    go_wp2_with fail
    refine (rBooks_same _ _ _ _ _ xs _ rfl HR4.out HR1.out (by omega) hW1.out).mono ?_
    rintro e w23 ⟨rfl, b⟩
    have Bw23 := Lib.hid (Bw22.out.trans (b.mono Bw22.out.size))
    have HR1' := Lib.hid (HR1.out.below b)
    clear HR1
    have HR1 := HR1'
    clear HR1'
    clear b
    go_wp2_with fail
    refine (D2.out _ (HY.out.below Bw23.out)).mono ?_
    rintro e w24 ⟨v5, ys, y, rfl, hl, b⟩
    have Bw24 := Lib.hid (Bw23.out.trans (b.mono Bw23.out.size))
    have HR1' := Lib.hid (HR1.out.below b)
    clear HR1
    have HR1 := HR1'
    clear HR1'
    obtain ⟨A5, c5, rfl, r5, -, -⟩ := hl.form
    have hl5 := hl.len
    have hw5 := Lib.hid hl.wid
    have HR5 := Lib.hid r5
    clear r5 hl b
    have hW5 : Hid (∀ x ∈ ys, x.ws.length ≤ 1048576) := Lib.hid (fun x hx => by have := hw5.out x hx; omega)
    clear hw5
    obtain ⟨fine, h_fine⟩ : ∃ fine, fine = decide (0 ≤ findV ys y) := ⟨_, rfl⟩
    have HFI := Lib.hid h_fine
    clear h_fine
    obtain ⟨L, h_L⟩ : ∃ L, L = stV ys y := ⟨_, rfl⟩
    have HL := Lib.hid h_L
    clear h_L
    have hL12 : L.length ≤ 1048576 := by rw [HL.out]; have := st_len ys y; omega
    go_wp2_with fail
    refine (implStartsOf_any A5 ys.length c5 ys y _ rfl HR5.out (by omega) hW5.out).mono ?_
    rintro e w25 ⟨v6, rfl, o, b⟩
    rw [← HFI.out]
    rw [← HL.out] at o
    obtain ⟨A6, c6, rfl⟩ := own_form o
    have Bw25 := Lib.hid (Bw24.out.trans (b.mono Bw24.out.size))
    have HR1' := Lib.hid (HR1.out.below b)
    clear HR1
    have HR1 := HR1'
    clear HR1'
    have HR5' := Lib.hid (HR5.out.below b)
    clear HR5
    have HR5 := HR5'
    clear HR5'
    have HR6 := Lib.hid (Rd.of_own o)
    clear o b
    go_wp2_with fail
    refine (specStartsOf_any A5 ys.length c5 ys y _ rfl HR5.out (by omega) hW5.out).mono ?_
    rintro e w26 ⟨v7, rfl, o, b⟩
    rw [← HFI.out]
    rw [← HL.out] at o
    obtain ⟨A7, c7, rfl⟩ := own_form o
    have Bw26 := Lib.hid (Bw25.out.trans (b.mono Bw25.out.size))
    have HR1' := Lib.hid (HR1.out.below b)
    clear HR1
    have HR1 := HR1'
    clear HR1'
    have HR5' := Lib.hid (HR5.out.below b)
    clear HR5
    have HR5 := HR5'
    clear HR5'
    have HR6' := Lib.hid (HR6.out.below b)
    clear HR6
    have HR6 := HR6'
    clear HR6'
    have HR7 := Lib.hid (Rd.of_own o)
    clear o b
    go_wp2_with fail
    refine (rInts_same _ _ _ _ _ L _ rfl HR6.out HR7.out hL12).mono ?_
    rintro e w27 ⟨rfl, b⟩
    have Bw27 := Lib.hid (Bw26.out.trans (b.mono Bw26.out.size))
    have HR1' := Lib.hid (HR1.out.below b)
    clear HR1
    have HR1 := HR1'
    clear HR1'
    have HR5' := Lib.hid (HR5.out.below b)
    clear HR5
    have HR5 := HR5'
    clear HR5'
    have HR6' := Lib.hid (HR6.out.below b)
    clear HR6
    have HR6 := HR6'
    clear HR6'
    clear b
    go_wp2_with fail
    go_loopw [24, 25, 26] (fun i _ _ wr => ∃ t : Nat, i = .int .i64 t ∧ t ≤ L.length ∧ Below w27.heap.size w27 wr) (fun i _ _ _ => L.length - (intOf i).toNat)
    case atStart => exact ⟨0, rfl, by omega, Below.refl _ _⟩
    case round =>
      obtain ⟨t, rfl, ht, hbw⟩ := hrel
      have HBW := Lib.hid hbw
      have hsw := hbw.size
      clear hbw
      by_cases htl : t < L.length
      · have htl' : (t : Int) < (L.length : Int) := by omega
        obtain ⟨v, ev⟩ : ∃ v, L[t]? = some v := ⟨_, List.getElem?_eq_getElem htl⟩
        obtain ⟨n1, n2, -⟩ := stamp_start (xs := ys) (id := y) (k := t) (s := v) (by rw [← HL.out]; exact ev)
        have N1 := Lib.hid n1
        have N2 := Lib.hid n2
        have htt : ((t : Int) != (t : Int)) = false := by simp
        have ht0 : (0 : Int) ≤ (t : Int) := by omega
        obtain ⟨gz, oz, eAz, hgz, cz⟩ := (HR6.out.below HBW.out).at1 ev
        subst eAz
        have HRw := Lib.hid (HR5.out.below HBW.out)
        clear n1 n2 ev
        go_wp2_with fail
        refine (implStampAt_any A5 ys.length c5 ys y v _ rfl HRw.out (by omega) hW5.out).mono ?_
        rintro e wb ⟨rfl, b⟩
        rw [N1.out, N2.out]
        have HBC := Lib.hid (HBW.out.trans (b.mono HBW.out.size))
        clear cz b HRw
        go_wp2
        go_roundw
        case rel => exact ⟨t + 1, by go_num, by omega, HBC.out⟩
        case measure => simp [intOf]; omega
      · obtain rfl : t = L.length := by omega
        have Bwr := Lib.hid (Bw27.out.trans (HBW.out.mono Bw27.out.size))
        have HR1' := Lib.hid (HR1.out.below HBW.out)
        clear HR1
        have HR1 := HR1'
        clear HR1'
        go_wp2_with fail
        refine (D3.out _ (HY.out.below Bwr.out)).mono ?_
        rintro e w28 ⟨v8, us, y8, n8, rfl, hl, b⟩
        have Bw28 := Lib.hid (Bwr.out.trans (b.mono Bwr.out.size))
        have HR1' := Lib.hid (HR1.out.below b)
        clear HR1
        have HR1 := HR1'
        clear HR1'
        obtain ⟨A8, c8, rfl, r8, -, -⟩ := hl.form
        have hl8 := hl.len
        have hw8 := Lib.hid hl.wid
        have HR8 := Lib.hid r8
        clear r8 hl b
        have hW8 : Hid (∀ x ∈ us, x.ws.length ≤ 1048576) := Lib.hid (fun x hx => by have := hw8.out x hx; omega)
        clear hw8
        obtain ⟨told, h_told⟩ : ∃ told, told = rmB us y8 n8 := ⟨_, rfl⟩
        have HT := Lib.hid h_told
        clear h_told
        obtain ⟨R, h_R⟩ : ∃ R, R = rmV us y8 n8 := ⟨_, rfl⟩
        have HRV := Lib.hid h_R
        clear h_R
        obtain ⟨g8, h_g8⟩ : ∃ g8, g8 = rmW us y8 n8 := ⟨_, rfl⟩
        have HG8 := Lib.hid h_g8
        clear h_g8
        have HRS : Hid (smallB R) := Lib.hid (by rw [HRV.out]; exact rm_small us y8 n8)
        have hRn := smallB_n HRS.out
        have hgg : (g8 != g8) = false := by simp
        go_wp2_with fail
        refine (implRemoveStamp_any A8 us.length c8 us y8 n8 _ rfl HR8.out (by omega) hW8.out).mono ?_
        rintro e w29 ⟨v9, vs9, rfl, o, b⟩
        rw [← HT.out, ← HG8.out]
        rw [← HRV.out] at o
        obtain ⟨A9, c9, rfl⟩ := own_form o.2.1
        have Bw29 := Lib.hid (Bw28.out.trans (b.mono Bw28.out.size))
        have HR1' := Lib.hid (HR1.out.below b)
        clear HR1
        have HR1 := HR1'
        clear HR1'
        have HR8' := Lib.hid (HR8.out.below b)
        clear HR8
        have HR8 := HR8'
        clear HR8'
        have HR9 := Lib.hid o.rd2
        clear o b
        go_wp2_with fail
        refine (specRemoveStamp_any A8 us.length c8 us y8 n8 _ rfl HR8.out (by omega) hW8.out).mono ?_
        rintro e w30 ⟨v10, vs10, rfl, o, b⟩
        rw [← HT.out, ← HG8.out]
        rw [← HRV.out] at o
        obtain ⟨A10, c10, rfl⟩ := own_form o.2.1
        have Bw30 := Lib.hid (Bw29.out.trans (b.mono Bw29.out.size))
        have HR1' := Lib.hid (HR1.out.below b)
        clear HR1
        have HR1 := HR1'
        clear HR1'
        have HR8' := Lib.hid (HR8.out.below b)
        clear HR8
        have HR8 := HR8'
        clear HR8'
        have HR9' := Lib.hid (HR9.out.below b)
        clear HR9
        have HR9 := HR9'
        clear HR9'
        have HR10 := Lib.hid o.rd2
        clear o b
        go_wp2_with fail
        refine (rBooks_same _ _ _ _ _ R _ rfl HR9.out HR10.out hRn (smallB_w HRS.out)).mono ?_
        rintro e w31 ⟨rfl, b⟩
        have Bw31 := Lib.hid (Bw30.out.trans (b.mono Bw30.out.size))
        have HR1' := Lib.hid (HR1.out.below b)
        clear HR1
        have HR1 := HR1'
        clear HR1'
        clear b
        go_wp2_with fail
        refine (D4.out _ (HY.out.below Bw31.out)).mono ?_
        rintro e w32 ⟨v11, ps, z11, at11, rfl, hl, b⟩
        have Bw32 := Lib.hid (Bw31.out.trans (b.mono Bw31.out.size))
        have HR1' := Lib.hid (HR1.out.below b)
        clear HR1
        have HR1 := HR1'
        clear HR1'
        obtain ⟨A11, c11, rfl, r11, -, -⟩ := hl.form
        have hl11 := hl.len
        have hw11 := Lib.hid hl.wid
        have HR11 := Lib.hid r11
        clear r11 hl b
        have hW11 : Hid (∀ x ∈ ps, x.ws.length ≤ 1048576) := Lib.hid (fun x hx => by have := hw11.out x hx; omega)
        clear hw11
        obtain ⟨k11, h_k11⟩ : ∃ k11, k11 = stampV ps z11 at11 := ⟨_, rfl⟩
        have HK11 := Lib.hid h_k11
        clear h_k11
        obtain ⟨kn, h_kn⟩ : ∃ kn, kn = stB ps z11 at11 := ⟨_, rfl⟩
        have HKN := Lib.hid h_kn
        clear h_kn
        obtain ⟨r11, h_r11⟩ : ∃ r11, r11 = restV ps z11 := ⟨_, rfl⟩
        have HR11V := Lib.hid h_r11
        clear h_r11
        obtain ⟨gd, h_gd⟩ : ∃ gd, gd = decide (0 ≤ findV ps z11) := ⟨_, rfl⟩
        have HGD := Lib.hid h_gd
        clear h_gd
        obtain ⟨bk, h_bk⟩ : ∃ bk, bk = bookB xs := ⟨_, rfl⟩
        have HBK := Lib.hid h_bk
        clear h_bk
        go_wp2_with fail
        refine (implStampAt_any A11 ps.length c11 ps z11 at11 _ rfl HR11.out (by omega) hW11.out).mono ?_
        rintro e w33 ⟨rfl, b⟩
        rw [← HK11.out, ← HKN.out]
        have Bw33 := Lib.hid (Bw32.out.trans (b.mono Bw32.out.size))
        have HR1' := Lib.hid (HR1.out.below b)
        clear HR1
        have HR1 := HR1'
        clear HR1'
        have HR11' := Lib.hid (HR11.out.below b)
        clear HR11
        have HR11 := HR11'
        clear HR11'
        clear b
        go_wp2_with fail
        refine (specStampAt_any A11 ps.length c11 ps z11 at11 _ rfl HR11.out (by omega) hW11.out).mono ?_
        rintro e w34 ⟨rfl, b⟩
        rw [← HK11.out, ← HKN.out]
        have Bw34 := Lib.hid (Bw33.out.trans (b.mono Bw33.out.size))
        have HR1' := Lib.hid (HR1.out.below b)
        clear HR1
        have HR1 := HR1'
        clear HR1'
        have HR11' := Lib.hid (HR11.out.below b)
        clear HR11
        have HR11 := HR11'
        clear HR11'
        clear b
        go_wp2_with fail
        refine (implRestOf_any A11 ps.length c11 ps z11 _ rfl HR11.out (by omega) hW11.out).mono ?_
        rintro e w35 ⟨rfl, b⟩
        rw [← HR11V.out, ← HGD.out]
        have Bw35 := Lib.hid (Bw34.out.trans (b.mono Bw34.out.size))
        have HR1' := Lib.hid (HR1.out.below b)
        clear HR1
        have HR1 := HR1'
        clear HR1'
        have HR11' := Lib.hid (HR11.out.below b)
        clear HR11
        have HR11 := HR11'
        clear HR11'
        clear b
        go_wp2_with fail
        refine (specRestOf_any A11 ps.length c11 ps z11 _ rfl HR11.out (by omega) hW11.out).mono ?_
        rintro e w36 ⟨rfl, b⟩
        rw [← HR11V.out, ← HGD.out]
        have Bw36 := Lib.hid (Bw35.out.trans (b.mono Bw35.out.size))
        have HR1' := Lib.hid (HR1.out.below b)
        clear HR1
        have HR1 := HR1'
        clear HR1'
        have HR11' := Lib.hid (HR11.out.below b)
        clear HR11
        have HR11 := HR11'
        clear HR11'
        clear b
        go_wp2_with fail
        refine (implIsStockBook_any A1 xs.length c1 xs _ rfl HR1.out (by omega) hW1.out).mono ?_
        rintro e w37 ⟨rfl, b⟩
        rw [← HBK.out]
        have Bw37 := Lib.hid (Bw36.out.trans (b.mono Bw36.out.size))
        have HR1' := Lib.hid (HR1.out.below b)
        clear HR1
        have HR1 := HR1'
        clear HR1'
        have HR11' := Lib.hid (HR11.out.below b)
        clear HR11
        have HR11 := HR11'
        clear HR11'
        clear b
        go_wp2_with fail
        refine (specIsStockBook_any A1 xs.length c1 xs _ rfl HR1.out (by omega) hW1.out).mono ?_
        rintro e w38 ⟨rfl, b⟩
        rw [← HBK.out]
        have Bw38 := Lib.hid (Bw37.out.trans (b.mono Bw37.out.size))
        have HR1' := Lib.hid (HR1.out.below b)
        clear HR1
        have HR1 := HR1'
        clear HR1'
        have HR11' := Lib.hid (HR11.out.below b)
        clear HR11
        have HR11 := HR11'
        clear HR11'
        clear b
        go_wp2
        go_ret
        exact ⟨by first | rfl | simp, Bw38.out⟩

theorem own : ownKnob Try.prog.godebug = none := by kernel_rfl
theorem laidOut : laidOutB Try.prog = true := by kernel_rfl
set_option maxRecDepth 100000 in
theorem lifted (os : Os) (started : os.Started) (H : Type) (enc : TypeId × Value → H) :
    ReturnsInHanded {} Try.checked os 3 .any (Rows.fnBooksSpec.pre6 enc Try.prog Try.f3 Rows.fnBooksRow.domain false) (Rows.fnBooksSpec.post enc Try.prog Try.f3 false true false false) := by
  refine returnsInHanded_of_change (C := Try.checked) own started (by kernel_rfl) Try.func3
    (ChangeSpec.witness6 (enc := enc) (C := Try.checked) false ⟨#[], #[.slice none 0 0], []⟩ 8 (by kernel_rfl) (by kernel_rfl) (by kernel_rfl) (by kernel_rfl)) ?_
  intro W base args ds gs before hval0 hW hcnd _
  have hval : ∀ (j : Nat) t v, Try.f3.params[j]? = some t → args[j]? = some v → Value.okWide Try.prog W .any base t v := hval0
  have hW' := hW
  obtain ⟨p, q, hA0, hV, rfl, hfz, hnd⟩ := hW
  have hA : DataW.TrodAll enc Try.prog W 0 (fun _ => true) true Try.f3.params.toList args.toList ds p := hA0
  rw [Try.params3] at hA hval
  obtain ⟨v0, vs0, d0, ds0, p0, q0, hargs, rfl, rfl, h0, r0⟩ := trodAll_cons hA
  obtain ⟨rfl, rfl, rfl⟩ := trodAll_nil r0
  obtain rfl : args = #[v0] := by cases args; simp_all
  obtain ⟨rfl, rfl⟩ := trodVars_none hV
  obtain ⟨a0, len0, cap0, rfl⟩ := okWide_slice Try.underlying22 (hval 0 22 v0 rfl rfl)
  have k0 := h0
  have lt0 : ∀ x ∈ p0, x.block < W.heap.size := by obtain ⟨m, hm⟩ := k0; exact DataW.trod_lt m _ _ _ hm
  obtain ⟨zs, hl0, hr0, hm0, hb0⟩ := openU Try.underlying22 Try.underlying5 (by kernel_rfl) h0
  clear hA0 hval0
  refine (walk a0 len0 cap0 zs W hl0 hr0 hm0 hb0).mono fun e W' ⟨he, bel⟩ => ?_
  subst he
  exact ⟨_, rfl, _, _, _, [], _, [], hW', trodAll_mk1 (shut_bool Try.underlying4 _), (trodAll_cons_mk (Below.trod laidOut (by kernel_rfl) (of_decide_eq_true (by kernel_rfl)) k0 bel lt0) trodAll_mk0), rfl, bel.frame _, fun h => by cases h⟩

theorem over : Rows.fnBooksRow.holds Try.pinned (OpenSpec.ofChange Rows.fnBooksSpec) :=
  OpenClaim.holds_of_wide 3 Try.f3 rfl rfl rfl rfl rfl rfl rfl ⟨rfl, rfl, rfl, rfl, rfl⟩ rfl rfl rfl rfl rfl (by kernel_rfl) Try.func3 (by kernel_rfl)
    (of_decide_eq_true (by kernel_rfl)) (by unfold Func.isWrapper; first | (rw [if_pos (by decide +kernel)]; kernel_rfl) | (rw [if_neg (by decide +kernel)]; exact ⟨rfl, rfl⟩))
    (fun os started H enc _ => lifted os started H enc)

theorem proved : Rows.FnBooksSaid := over
#print axioms proved
end Go.Proofs.Ytacacibpehnmgaa.lwFnBooks
