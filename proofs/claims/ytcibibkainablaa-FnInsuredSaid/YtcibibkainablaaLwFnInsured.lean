/- The law FnInsured returns true for every input: what the program and the reference answer on insurances is the same and agrees with what the law asks. No conditions. -/
import Derived.Test.YtcibibkainablaaCurQ
import Derived.Test.YtcibibkainablaaInsQ
import Derived.Test.YtcibibkainablaaInsP
namespace Go.Proofs.Ytcibibkainablaa.lwFnInsured
set_option linter.unusedSimpArgs false
open Go.ChangeShapes Go.WideShapes Go.ChangeAt Go.RowKit
set_option linter.unusedVariables false

theorem rHasR (A : Option Addr) (n c : Nat) (xs : List Int) (x : Int) (w : World) (hn : xs.length = n) (hA : Rd w A (cells1 xs)) (h20 : n ≤ 1048576) :
    Calls Try.prog 21 #[.slice A n c, .int .i64 x] w (Ret (.bool (hasB xs x)) w) := (rHas_any A n c xs x w hn hA h20).mono (fun e w' hh => ⟨hh.1, by rw [← hh.2]; exact Below.refl _ _⟩)
set_option maxRecDepth 20000 in
set_option maxHeartbeats 16000000 in
theorem walk (B : Option Addr) (n c : Nat) (zs : List Int) (w : World) (hn : zs.length = n) (hB : Rd w B (cellsU zs)) (hm : n ≤ maxLen) (hb : ∀ z ∈ zs, 0 ≤ z ∧ z ≤ 255) :
    Calls Try.prog 3 #[.slice B n c] w (Ret (.bool true) w) := by
  have CB := Lib.hid (fun w => rBig_any B n c w hm)
  by_cases hbig : (65536 : Int) < n
  · rw [show decide ((65536 : Int) < n) = true by simp; omega] at CB
    clear hbig hn
    go_enter Try.func3, Try.ntmps3
    go_wp2_with fail
    refine (CB.out _).mono ?_
    rintro e w1 ⟨rfl, rfl⟩
    go_wp2
    go_ret
    exact ⟨rfl, Below.refl _ _⟩
  rw [show decide ((65536 : Int) < n) = false by simp; omega] at CB
  have HY : Hid (Bytes w B zs) := Lib.hid ⟨hB, hb, by omega⟩
  have HN := Lib.hid hn
  clear hbig hn hB hm hb
  have D1 := Lib.hid (fun w h => drawAddInsurance_any B n c zs w HN.out h)
  have D2 := Lib.hid (fun w h => drawPartsPaid_any B n c zs w HN.out h)
  have D3 := Lib.hid (fun w h => drawUnderInsured_any B n c zs w HN.out h)
  go_enter Try.func3, Try.ntmps3
  go_wp2_with fail
  refine (CB.out _).mono ?_
  rintro e w0 ⟨rfl, rfl⟩
  have HB0 := Lib.hid (Below.refl w.heap.size w)
  go_wp2_with fail
  refine (D1.out _ (HY.out)).mono ?_
  rintro e w1 ⟨v1, xs, x, rfl, o, hx, b⟩
  have Bw1 := Lib.hid (HB0.out.trans (b.mono HB0.out.size))
  obtain ⟨A1, c1, rfl⟩ := own_form o
  have HO1 := Lib.hid o
  clear o b
  go_wp2_with fail
  obtain ⟨wx, hwx⟩ : ∃ wx, wx = (w1.alloc (.cells #[.int .i64 x.a, .int .i64 x.b, .int .i64 x.c, .int .i64 x.d, .int .i64 x.e] 26)) := ⟨_, rfl⟩
  have KX : Hid (Blk wx w1.heap.size [.int .i64 x.a, .int .i64 x.b, .int .i64 x.c, .int .i64 x.d, .int .i64 x.e]) := Lib.hid (by rw [hwx]; exact Blk.new w1 _ _)
  have bx : Below w1.heap.size w1 wx := by rw [hwx]; exact (Below.refl _ _).alloc (Nat.le_refl _) _
  rw [← hwx]
  clear hwx
  have Bwx := Lib.hid (Bw1.out.trans (bx.mono Bw1.out.size))
  have HO1' := Lib.hid (own_below HO1.out bx)
  clear HO1
  have HO1 := HO1'
  clear HO1'
  clear bx
  obtain ⟨ok, h_ok⟩ : ∃ ok, ok = sgB xs x := ⟨_, rfl⟩
  have HOK := Lib.hid h_ok
  clear h_ok
  obtain ⟨S, h_S⟩ : ∃ S, S = sgV xs x := ⟨_, rfl⟩
  have HS := Lib.hid h_S
  clear h_S
  have hS : S.length ≤ 12 := by rw [HS.out]; exact sg_len xs x
  refine (implAddInsurance_any A1 xs.length c1 xs x _ rfl (Rd.of_own HO1.out) (by omega)).mono ?_
  rintro e w2 ⟨v3, rfl, o, b⟩
  rw [← HOK.out]
  rw [← HS.out] at o
  obtain ⟨Av3, cv3, rfl⟩ := own_form o
  have Bw2 := Lib.hid (Bwx.out.trans (b.mono Bwx.out.size))
  have HO1' := Lib.hid (own_below HO1.out b)
  clear HO1
  have HO1 := HO1'
  clear HO1'
  have KX' := Lib.hid (KX.out.below b KX.out.lt)
  clear KX
  have KX := KX'
  clear KX'
  have HRv3 := Lib.hid (Rd.of_own o)
  clear o b
  have y0 := KX.out.cell 0 _ rfl
  have y1 := KX.out.cell 1 _ rfl
  have y2 := KX.out.cell 2 _ rfl
  have y3 := KX.out.cell 3 _ rfl
  have y4 := KX.out.cell 4 _ rfl
  go_wp2_with fail
  clear y0 y1 y2 y3 y4
  refine (specAddInsurance_any A1 xs.length c1 xs x _ rfl HO1.out (by omega)).mono ?_
  rintro e w3 ⟨v4, rfl, o, b⟩
  rw [← HOK.out]
  rw [← HS.out] at o
  obtain ⟨Av4, cv4, rfl⟩ := own_form o
  have Bw3 := Lib.hid (Bw2.out.trans (b.mono Bw2.out.size))
  have HRv3' := Lib.hid (HRv3.out.below b)
  clear HRv3
  have HRv3 := HRv3'
  clear HRv3'
  have HO1' := Lib.hid (own_below HO1.out b)
  clear HO1
  have HO1 := HO1'
  clear HO1'
  have KX' := Lib.hid (KX.out.below b KX.out.lt)
  clear KX
  have KX := KX'
  clear KX'
  have HRv4 := Lib.hid (Rd.of_own o)
  clear o b
  have y0 := KX.out.cell 0 _ rfl
  have y1 := KX.out.cell 1 _ rfl
  have y2 := KX.out.cell 2 _ rfl
  have y3 := KX.out.cell 3 _ rfl
  have y4 := KX.out.cell 4 _ rfl
  go_wp2_with fail
  clear y0 y1 y2 y3 y4
  refine (rInsured_same _ _ _ _ _ S _ rfl HRv3.out HRv4.out (by omega)).mono ?_
  rintro e w4 ⟨rfl, b⟩
  have Bw4 := Lib.hid (Bw3.out.trans (b.mono Bw3.out.size))
  have HRv3' := Lib.hid (HRv3.out.below b)
  clear HRv3
  have HRv3 := HRv3'
  clear HRv3'
  have HO1' := Lib.hid (own_below HO1.out b)
  clear HO1
  have HO1 := HO1'
  clear HO1'
  have KX' := Lib.hid (KX.out.below b KX.out.lt)
  clear KX
  have KX := KX'
  clear KX'
  clear b
  cases ok with
  | false =>
    go_wp2_with fail
    refine (D2.out _ (HY.out.below Bw4.out)).mono ?_
    rintro e w5 ⟨v5, ys, item, day, worth, rfl, hl, b⟩
    have Bw5 := Lib.hid (Bw4.out.trans (b.mono Bw4.out.size))
    have HO1' := Lib.hid (own_below HO1.out b)
    clear HO1
    have HO1 := HO1'
    clear HO1'
    clear KX
    obtain ⟨A5, c5, rfl, r5, h5, h5m⟩ := hl.form
    have hy := hl.len
    have HR5 := Lib.hid r5
    clear r5 hl b
    obtain ⟨fine, h_fine⟩ : ∃ fine, fine = paidB ys item day worth := ⟨_, rfl⟩
    have HF := Lib.hid h_fine
    clear h_fine
    obtain ⟨Pt, h_Pt⟩ : ∃ Pt, Pt = partsV ys item day worth := ⟨_, rfl⟩
    have HPT := Lib.hid h_Pt
    clear h_Pt
    have hPt : Pt.length ≤ 12 := by rw [HPT.out]; exact parts_len ys item day worth
    obtain ⟨pd, h_pd⟩ : ∃ pd, pd = paidV ys item day worth := ⟨_, rfl⟩
    have HPD := Lib.hid h_pd
    clear h_pd
    go_wp2_with fail
    refine (implPartsPaid_any A5 ys.length c5 ys item day worth _ rfl HR5.out (by omega)).mono ?_
    rintro e w6 ⟨v6, rfl, o, b⟩
    rw [← HF.out]
    rw [← HPT.out] at o
    obtain ⟨Av6, cv6, rfl⟩ := own_form o
    have Bw6 := Lib.hid (Bw5.out.trans (b.mono Bw5.out.size))
    have HR5' := Lib.hid (HR5.out.below b)
    clear HR5
    have HR5 := HR5'
    clear HR5'
    have HO1' := Lib.hid (own_below HO1.out b)
    clear HO1
    have HO1 := HO1'
    clear HO1'
    have HRv6 := Lib.hid (Rd.of_own o)
    clear o b
    go_wp2_with fail
    refine (specPartsPaid_any A5 ys.length c5 ys item day worth _ rfl HR5.out (by omega)).mono ?_
    rintro e w7 ⟨v7, rfl, o, b⟩
    rw [← HF.out]
    rw [← HPT.out] at o
    obtain ⟨Av7, cv7, rfl⟩ := own_form o
    have Bw7 := Lib.hid (Bw6.out.trans (b.mono Bw6.out.size))
    have HR5' := Lib.hid (HR5.out.below b)
    clear HR5
    have HR5 := HR5'
    clear HR5'
    have HRv6' := Lib.hid (HRv6.out.below b)
    clear HRv6
    have HRv6 := HRv6'
    clear HRv6'
    have HO1' := Lib.hid (own_below HO1.out b)
    clear HO1
    have HO1 := HO1'
    clear HO1'
    have HRv7 := Lib.hid (Rd.of_own o)
    clear o b
    go_wp2_with fail
    refine (rInts_same _ _ _ _ _ Pt _ rfl HRv6.out HRv7.out (by omega)).mono ?_
    rintro e w8 ⟨rfl, b⟩
    have Bw8 := Lib.hid (Bw7.out.trans (b.mono Bw7.out.size))
    have HR5' := Lib.hid (HR5.out.below b)
    clear HR5
    have HR5 := HR5'
    clear HR5'
    have HRv6' := Lib.hid (HRv6.out.below b)
    clear HRv6
    have HRv6 := HRv6'
    clear HRv6'
    have HO1' := Lib.hid (own_below HO1.out b)
    clear HO1
    have HO1 := HO1'
    clear HO1'
    clear b
    go_wp2_with fail
    refine (implPaidFor_any A5 ys.length c5 ys item day worth _ rfl HR5.out (by omega)).mono ?_
    rintro e w9 ⟨rfl, b⟩
    rw [← HPD.out, ← HF.out]
    have Bw9 := Lib.hid (Bw8.out.trans (b.mono Bw8.out.size))
    have HR5' := Lib.hid (HR5.out.below b)
    clear HR5
    have HR5 := HR5'
    clear HR5'
    have HRv6' := Lib.hid (HRv6.out.below b)
    clear HRv6
    have HRv6 := HRv6'
    clear HRv6'
    have HO1' := Lib.hid (own_below HO1.out b)
    clear HO1
    have HO1 := HO1'
    clear HO1'
    clear b
    go_wp2_with fail
    refine (specPaidFor_any A5 ys.length c5 ys item day worth _ rfl HR5.out (by omega)).mono ?_
    rintro e w10 ⟨rfl, b⟩
    rw [← HPD.out, ← HF.out]
    have Bw10 := Lib.hid (Bw9.out.trans (b.mono Bw9.out.size))
    have HR5' := Lib.hid (HR5.out.below b)
    clear HR5
    have HR5 := HR5'
    clear HR5'
    have HRv6' := Lib.hid (HRv6.out.below b)
    clear HRv6
    have HRv6 := HRv6'
    clear HRv6'
    have HO1' := Lib.hid (own_below HO1.out b)
    clear HO1
    have HO1 := HO1'
    clear HO1'
    clear b
    have hne : (pd != pd) = false := by simp
    cases fine with
    | false =>
      go_wp2_with fail
      refine (D3.out _ (HY.out.below Bw10.out)).mono ?_
      rintro e w11 ⟨v8, us, vi, zi, vw, ws, at_, rfl, hl, hi, hw, b⟩
      have Bw11 := Lib.hid (Bw10.out.trans (b.mono Bw10.out.size))
      have HO1' := Lib.hid (own_below HO1.out b)
      clear HO1
      have HO1 := HO1'
      clear HO1'
      obtain ⟨A8, c8, rfl, r8, h8, h8m⟩ := hl.form
      obtain ⟨Ai, ci, rfl, ri, hi1, hi2⟩ := hi.form
      obtain ⟨Aw, cw, rfl, rw_, hw1_, hw2_⟩ := hw.form
      have hu22 := hl.len
      have hzi := hi.len
      have hwsl := hw.len
      have HR8 := Lib.hid r8
      have HRi := Lib.hid ri
      have HRw := Lib.hid rw_
      clear r8 ri rw_ hl hi hw b
      obtain ⟨kn, h_kn⟩ : ∃ kn, kn = uiB us zi ws at_ := ⟨_, rfl⟩
      have HK := Lib.hid h_kn
      clear h_kn
      obtain ⟨U, h_U⟩ : ∃ U, U = uiV us zi ws at_ := ⟨_, rfl⟩
      have HU := Lib.hid h_U
      clear h_U
      have hUl : U.length ≤ 12 := by rw [HU.out]; exact ui_len us zi ws at_
      go_wp2_with fail
      refine (implUnderInsured_any A8 us.length c8 us Ai zi.length ci zi Aw ws.length cw ws at_ _ rfl HR8.out (by omega) rfl HRi.out (by omega) rfl HRw.out (by omega)).mono ?_
      rintro e w12 ⟨v9, rfl, o, b⟩
      rw [← HK.out]
      rw [← HU.out] at o
      obtain ⟨Av9, cv9, rfl⟩ := own_form o
      have Bw12 := Lib.hid (Bw11.out.trans (b.mono Bw11.out.size))
      have HR8' := Lib.hid (HR8.out.below b)
      clear HR8
      have HR8 := HR8'
      clear HR8'
      have HRi' := Lib.hid (HRi.out.below b)
      clear HRi
      have HRi := HRi'
      clear HRi'
      have HRw' := Lib.hid (HRw.out.below b)
      clear HRw
      have HRw := HRw'
      clear HRw'
      have HO1' := Lib.hid (own_below HO1.out b)
      clear HO1
      have HO1 := HO1'
      clear HO1'
      have HRv9 := Lib.hid (Rd.of_own o)
      clear o b
      go_wp2_with fail
      refine (specUnderInsured_any A8 us.length c8 us Ai zi.length ci zi Aw ws.length cw ws at_ _ rfl HR8.out (by omega) rfl HRi.out (by omega) rfl HRw.out (by omega)).mono ?_
      rintro e w13 ⟨va, rfl, o, b⟩
      rw [← HK.out]
      rw [← HU.out] at o
      obtain ⟨Ava, cva, rfl⟩ := own_form o
      have Bw13 := Lib.hid (Bw12.out.trans (b.mono Bw12.out.size))
      have HR8' := Lib.hid (HR8.out.below b)
      clear HR8
      have HR8 := HR8'
      clear HR8'
      have HRi' := Lib.hid (HRi.out.below b)
      clear HRi
      have HRi := HRi'
      clear HRi'
      have HRw' := Lib.hid (HRw.out.below b)
      clear HRw
      have HRw := HRw'
      clear HRw'
      have HRv9' := Lib.hid (HRv9.out.below b)
      clear HRv9
      have HRv9 := HRv9'
      clear HRv9'
      have HO1' := Lib.hid (own_below HO1.out b)
      clear HO1
      have HO1 := HO1'
      clear HO1'
      have HRva := Lib.hid (Rd.of_own o)
      clear o b
      go_wp2_with fail
      refine (rInts_same _ _ _ _ _ U _ rfl HRv9.out HRva.out (by omega)).mono ?_
      rintro e w14 ⟨rfl, b⟩
      have Bw14 := Lib.hid (Bw13.out.trans (b.mono Bw13.out.size))
      have HR8' := Lib.hid (HR8.out.below b)
      clear HR8
      have HR8 := HR8'
      clear HR8'
      have HRi' := Lib.hid (HRi.out.below b)
      clear HRi
      have HRi := HRi'
      clear HRi'
      have HRw' := Lib.hid (HRw.out.below b)
      clear HRw
      have HRw := HRw'
      clear HRw'
      have HRv9' := Lib.hid (HRv9.out.below b)
      clear HRv9
      have HRv9 := HRv9'
      clear HRv9'
      have HO1' := Lib.hid (own_below HO1.out b)
      clear HO1
      have HO1 := HO1'
      clear HO1'
      clear b
      obtain ⟨q, h_q⟩ : ∃ q, q = insL xs := ⟨_, rfl⟩
      have HQ := Lib.hid h_q
      clear h_q
      have hqq : (q == q) = true := by simp
      cases kn with
      | false =>
        go_wp2_with fail
        go_loopw [44, 45, 46] (fun i _ _ wr => ∃ t : Nat, i = .int .i64 t ∧ t ≤ zi.length ∧ Below w14.heap.size w14 wr) (fun i _ _ _ => zi.length - (intOf i).toNat)
        case atStart => exact ⟨0, rfl, by omega, Below.refl _ _⟩
        case round =>
          obtain ⟨t, rfl, ht, hbw⟩ := hrel
          have HBW := Lib.hid hbw
          have hsw := hbw.size
          clear hbw
          by_cases htl : t < zi.length
          · have htl' : (t : Int) < (zi.length : Int) := by omega
            have HO1w := Lib.hid (own_below HO1.out HBW.out)
            have HBr := Lib.hid (Bw14.out.trans (HBW.out.mono Bw14.out.size))
            go_wp2_with fail
            refine (implAreInsured_any A1 xs.length c1 xs _ rfl (Rd.of_own HO1w.out) (by omega)).mono ?_
            rintro e wp ⟨rfl, bp⟩
            rw [← HQ.out]
            have HO1p := Lib.hid (own_below HO1w.out bp)
            have HBp := Lib.hid (HBr.out.trans (bp.mono HBr.out.size))
            clear bp
            go_wp2_with fail
            refine (specAreInsured_any A1 xs.length c1 xs _ rfl (Rd.of_own HO1p.out) (by omega)).mono ?_
            rintro e wq ⟨rfl, bq⟩
            rw [← HQ.out]
            have HBq := Lib.hid (HBp.out.trans (bq.mono HBp.out.size))
            clear bq
            go_wp2
            go_ret
            exact ⟨by first | rfl | (rw [hqq]; rfl), HBq.out⟩
          · obtain rfl : t = zi.length := by omega
            have HO1w := Lib.hid (own_below HO1.out HBW.out)
            have HBr := Lib.hid (Bw14.out.trans (HBW.out.mono Bw14.out.size))
            go_wp2_with fail
            refine (implAreInsured_any A1 xs.length c1 xs _ rfl (Rd.of_own HO1w.out) (by omega)).mono ?_
            rintro e wp ⟨rfl, bp⟩
            rw [← HQ.out]
            have HO1p := Lib.hid (own_below HO1w.out bp)
            have HBp := Lib.hid (HBr.out.trans (bp.mono HBr.out.size))
            clear bp
            go_wp2_with fail
            refine (specAreInsured_any A1 xs.length c1 xs _ rfl (Rd.of_own HO1p.out) (by omega)).mono ?_
            rintro e wq ⟨rfl, bq⟩
            rw [← HQ.out]
            have HBq := Lib.hid (HBp.out.trans (bq.mono HBp.out.size))
            clear bq
            go_wp2
            go_ret
            exact ⟨by first | rfl | (rw [hqq]; rfl), HBq.out⟩
      | true =>
        go_wp2_with fail
        go_loopw [44, 45, 46] (fun i _ _ wr => ∃ t : Nat, i = .int .i64 t ∧ t ≤ zi.length ∧ Below w14.heap.size w14 wr) (fun i _ _ _ => zi.length - (intOf i).toNat)
        case atStart => exact ⟨0, rfl, by omega, Below.refl _ _⟩
        case round =>
          obtain ⟨t, rfl, ht, hbw⟩ := hrel
          have HBW := Lib.hid hbw
          have hsw := hbw.size
          clear hbw
          by_cases htl : t < zi.length
          · have htl' : (t : Int) < (zi.length : Int) := by omega
            obtain ⟨g1, g2, g3⟩ := ui_fact HK.out.symm htl
            obtain ⟨z, hz⟩ : ∃ z, z = zi.getD t 0 := ⟨_, rfl⟩
            obtain ⟨y, hy_⟩ : ∃ y, y = ws.getD t 0 := ⟨_, rfl⟩
            rw [← hz, ← hy_] at g2 g3
            rw [← HU.out] at g3
            have ez : zi[t]? = some z := by rw [hz, List.getD_eq_getElem?_getD, List.getElem?_eq_getElem htl]; rfl
            have ey : ws[t]? = some y := by rw [hy_, List.getD_eq_getElem?_getD, List.getElem?_eq_getElem (by omega)]; rfl
            obtain ⟨gz, oz, eAi, hgz, cz⟩ := (HRi.out.below HBW.out).at1 ez
            obtain ⟨gy, oy, eAw, hgy, cy⟩ := (HRw.out.below HBW.out).at1 ey
            subst eAi; subst eAw
            have htw' : (t : Int) < (ws.length : Int) := by omega
            have ht0 : (0 : Int) ≤ (t : Int) := by omega
            obtain ⟨Pd, hPd⟩ : ∃ Pd, Pd = paidV us z at_ y := ⟨_, rfl⟩
            have CP := Lib.hid (fun w h => implPaidFor_any A8 us.length c8 us z at_ y w rfl h (by omega))
            rw [← hPd, g2] at CP
            rw [← hPd] at g3
            have CH := Lib.hid (fun w h => rHasR Av9 U.length cv9 U z w rfl h (by omega))
            rw [← g3] at CH
            have HR8w := Lib.hid (HR8.out.below HBW.out)
            have HRUw := Lib.hid (HRv9.out.below HBW.out)
            clear g1 g2 g3 hz hy_ ez ey hPd
            go_wp2_with fail
            refine wp_region_lat wr.heap.size (by kernel_rfl) (by kernel_rfl) ?_
            have LC := fun (u : Lat wr.heap.size wr) => u.cell
            repeat (go_big_quiet_step ((go_at_call 15; (with_reducible exact lat_call _ (Nat.le_refl _) (CP.out _ (HR8w.out.below (Lat.below _)))))))
            refine wpQuiet_nil ?_
            intro wb b1
            clear LC
            have hsb := b1.size
            have dz := (b1.cell (p := ⟨gz, oz + t, none⟩) hgz).trans cz
            have dy := (b1.cell (p := ⟨gy, oy + t, none⟩) hgy).trans cy
            have hgz2 : gz < wb.heap.size := by omega
            have hgy2 : gy < wb.heap.size := by omega
            have HRUb := Lib.hid (HRUw.out.below b1)
            have HBB := Lib.hid (HBW.out.trans (b1.mono hsw))
            clear cz cy b1
            by_cases hPy : Pd < y
            · rw [decide_eq_true hPy] at CH
              go_wp2_with fail
              refine wp_region_lat wb.heap.size (by kernel_rfl) (by kernel_rfl) ?_
              have LC := fun (u : Lat wb.heap.size wb) => u.cell
              repeat (go_big_quiet_step ((go_at_call 21; (with_reducible exact lat_call _ (Nat.le_refl _) (CH.out _ (HRUb.out.below (Lat.below _)))))))
              refine wpQuiet_nil ?_
              intro wc b2
              clear LC
              have HBC := Lib.hid (HBB.out.trans (b2.mono HBB.out.size))
              clear b2 dz dy
              go_wp2
              go_roundw
              case rel => exact ⟨t + 1, by go_num, by omega, HBC.out⟩
              case measure => simp [intOf]; omega
            · rw [decide_eq_false hPy] at CH
              have hPy2 : y ≤ Pd := by omega
              go_wp2_with fail
              refine wp_region_lat wb.heap.size (by kernel_rfl) (by kernel_rfl) ?_
              have LC := fun (u : Lat wb.heap.size wb) => u.cell
              repeat (go_big_quiet_step ((go_at_call 21; (with_reducible exact lat_call _ (Nat.le_refl _) (CH.out _ (HRUb.out.below (Lat.below _)))))))
              refine wpQuiet_nil ?_
              intro wc b2
              clear LC
              have HBC := Lib.hid (HBB.out.trans (b2.mono HBB.out.size))
              clear b2 dz dy
              go_wp2
              go_roundw
              case rel => exact ⟨t + 1, by go_num, by omega, HBC.out⟩
              case measure => simp [intOf]; omega
          · obtain rfl : t = zi.length := by omega
            have HO1w := Lib.hid (own_below HO1.out HBW.out)
            have HBr := Lib.hid (Bw14.out.trans (HBW.out.mono Bw14.out.size))
            go_wp2_with fail
            refine (implAreInsured_any A1 xs.length c1 xs _ rfl (Rd.of_own HO1w.out) (by omega)).mono ?_
            rintro e wp ⟨rfl, bp⟩
            rw [← HQ.out]
            have HO1p := Lib.hid (own_below HO1w.out bp)
            have HBp := Lib.hid (HBr.out.trans (bp.mono HBr.out.size))
            clear bp
            go_wp2_with fail
            refine (specAreInsured_any A1 xs.length c1 xs _ rfl (Rd.of_own HO1p.out) (by omega)).mono ?_
            rintro e wq ⟨rfl, bq⟩
            rw [← HQ.out]
            have HBq := Lib.hid (HBp.out.trans (bq.mono HBp.out.size))
            clear bq
            go_wp2
            go_ret
            exact ⟨by first | rfl | (rw [hqq]; rfl), HBq.out⟩
    | true =>
      obtain ⟨f1, f2, f3, f4, f5, f6, f7, f8⟩ := paid_facts HF.out.symm
      rw [← HPT.out] at f4 f5 f6 f8
      rw [← HPD.out] at f2 f3 f4 f5 f7
      obtain ⟨cv, h_cv⟩ : ∃ cv, cv = covV ys item day := ⟨_, rfl⟩
      have HCV := Lib.hid h_cv
      clear h_cv
      rw [← HCV.out] at f2
      obtain ⟨sm, h_sm⟩ : ∃ sm, sm = Pt.sum := ⟨_, rfl⟩
      have HSM := Lib.hid h_sm
      clear h_sm
      rw [← HSM.out] at f4 f5 f8
      have HF1 := Lib.hid f1
      have hsm : wrap64 Pt.sum = sm := by rw [← HSM.out]; exact IntWalk.wrap64_in sm (by omega)
      have CV := Lib.hid (fun w h => rSum_any Av6 Pt.length cv6 Pt w rfl h (by omega))
      rw [hsm] at CV
      have hw1 : IntKind.i64.wrap (pd - sm) = pd - sm := IntWalk.i64_in _ (by omega)
      have hl1 : (Pt.length != ys.length) = false := by simp; omega
      have hl2 : ((Pt.length : Int) != (ys.length : Int)) = false := by simp; omega
      have g1 : decide (cv < pd) = false := by simp; omega
      have g2 : decide (worth < pd) = false := by simp; omega
      have g3 : decide (pd < sm) = false := by simp; omega
      have g4 : decide ((ys.length : Int) < pd - sm) = false := by simp; omega
      clear f1 f6 f7 f8 hsm
      go_wp2_with fail
      refine (implCoverOn_any A5 ys.length c5 ys item day _ rfl HR5.out (by omega)).mono ?_
      rintro e w15 ⟨rfl, b⟩
      rw [← HCV.out, HF1.out]
      have Bw15 := Lib.hid (Bw10.out.trans (b.mono Bw10.out.size))
      have HR5' := Lib.hid (HR5.out.below b)
      clear HR5
      have HR5 := HR5'
      clear HR5'
      have HRv6' := Lib.hid (HRv6.out.below b)
      clear HRv6
      have HRv6 := HRv6'
      clear HRv6'
      have HO1' := Lib.hid (own_below HO1.out b)
      clear HO1
      have HO1 := HO1'
      clear HO1'
      clear b
      go_wp2_with fail
      refine (CV.out _ HRv6.out).mono ?_
      rintro e w16 ⟨rfl, rfl⟩
      go_wp2_with fail
      refine (D3.out _ (HY.out.below Bw15.out)).mono ?_
      rintro e w17 ⟨v8, us, vi, zi, vw, ws, at_, rfl, hl, hi, hw, b⟩
      have Bw17 := Lib.hid (Bw15.out.trans (b.mono Bw15.out.size))
      have HO1' := Lib.hid (own_below HO1.out b)
      clear HO1
      have HO1 := HO1'
      clear HO1'
      obtain ⟨A8, c8, rfl, r8, h8, h8m⟩ := hl.form
      obtain ⟨Ai, ci, rfl, ri, hi1, hi2⟩ := hi.form
      obtain ⟨Aw, cw, rfl, rw_, hw1_, hw2_⟩ := hw.form
      have hu22 := hl.len
      have hzi := hi.len
      have hwsl := hw.len
      have HR8 := Lib.hid r8
      have HRi := Lib.hid ri
      have HRw := Lib.hid rw_
      clear r8 ri rw_ hl hi hw b
      obtain ⟨kn, h_kn⟩ : ∃ kn, kn = uiB us zi ws at_ := ⟨_, rfl⟩
      have HK := Lib.hid h_kn
      clear h_kn
      obtain ⟨U, h_U⟩ : ∃ U, U = uiV us zi ws at_ := ⟨_, rfl⟩
      have HU := Lib.hid h_U
      clear h_U
      have hUl : U.length ≤ 12 := by rw [HU.out]; exact ui_len us zi ws at_
      go_wp2_with fail
      refine (implUnderInsured_any A8 us.length c8 us Ai zi.length ci zi Aw ws.length cw ws at_ _ rfl HR8.out (by omega) rfl HRi.out (by omega) rfl HRw.out (by omega)).mono ?_
      rintro e w18 ⟨v9, rfl, o, b⟩
      rw [← HK.out]
      rw [← HU.out] at o
      obtain ⟨Av9, cv9, rfl⟩ := own_form o
      have Bw18 := Lib.hid (Bw17.out.trans (b.mono Bw17.out.size))
      have HR8' := Lib.hid (HR8.out.below b)
      clear HR8
      have HR8 := HR8'
      clear HR8'
      have HRi' := Lib.hid (HRi.out.below b)
      clear HRi
      have HRi := HRi'
      clear HRi'
      have HRw' := Lib.hid (HRw.out.below b)
      clear HRw
      have HRw := HRw'
      clear HRw'
      have HO1' := Lib.hid (own_below HO1.out b)
      clear HO1
      have HO1 := HO1'
      clear HO1'
      have HRv9 := Lib.hid (Rd.of_own o)
      clear o b
      go_wp2_with fail
      refine (specUnderInsured_any A8 us.length c8 us Ai zi.length ci zi Aw ws.length cw ws at_ _ rfl HR8.out (by omega) rfl HRi.out (by omega) rfl HRw.out (by omega)).mono ?_
      rintro e w19 ⟨va, rfl, o, b⟩
      rw [← HK.out]
      rw [← HU.out] at o
      obtain ⟨Ava, cva, rfl⟩ := own_form o
      have Bw19 := Lib.hid (Bw18.out.trans (b.mono Bw18.out.size))
      have HR8' := Lib.hid (HR8.out.below b)
      clear HR8
      have HR8 := HR8'
      clear HR8'
      have HRi' := Lib.hid (HRi.out.below b)
      clear HRi
      have HRi := HRi'
      clear HRi'
      have HRw' := Lib.hid (HRw.out.below b)
      clear HRw
      have HRw := HRw'
      clear HRw'
      have HRv9' := Lib.hid (HRv9.out.below b)
      clear HRv9
      have HRv9 := HRv9'
      clear HRv9'
      have HO1' := Lib.hid (own_below HO1.out b)
      clear HO1
      have HO1 := HO1'
      clear HO1'
      have HRva := Lib.hid (Rd.of_own o)
      clear o b
      go_wp2_with fail
      refine (rInts_same _ _ _ _ _ U _ rfl HRv9.out HRva.out (by omega)).mono ?_
      rintro e w20 ⟨rfl, b⟩
      have Bw20 := Lib.hid (Bw19.out.trans (b.mono Bw19.out.size))
      have HR8' := Lib.hid (HR8.out.below b)
      clear HR8
      have HR8 := HR8'
      clear HR8'
      have HRi' := Lib.hid (HRi.out.below b)
      clear HRi
      have HRi := HRi'
      clear HRi'
      have HRw' := Lib.hid (HRw.out.below b)
      clear HRw
      have HRw := HRw'
      clear HRw'
      have HRv9' := Lib.hid (HRv9.out.below b)
      clear HRv9
      have HRv9 := HRv9'
      clear HRv9'
      have HO1' := Lib.hid (own_below HO1.out b)
      clear HO1
      have HO1 := HO1'
      clear HO1'
      clear b
      obtain ⟨q, h_q⟩ : ∃ q, q = insL xs := ⟨_, rfl⟩
      have HQ := Lib.hid h_q
      clear h_q
      have hqq : (q == q) = true := by simp
      cases kn with
      | false =>
        go_wp2_with fail
        go_loopw [44, 45, 46] (fun i _ _ wr => ∃ t : Nat, i = .int .i64 t ∧ t ≤ zi.length ∧ Below w20.heap.size w20 wr) (fun i _ _ _ => zi.length - (intOf i).toNat)
        case atStart => exact ⟨0, rfl, by omega, Below.refl _ _⟩
        case round =>
          obtain ⟨t, rfl, ht, hbw⟩ := hrel
          have HBW := Lib.hid hbw
          have hsw := hbw.size
          clear hbw
          by_cases htl : t < zi.length
          · have htl' : (t : Int) < (zi.length : Int) := by omega
            have HO1w := Lib.hid (own_below HO1.out HBW.out)
            have HBr := Lib.hid (Bw20.out.trans (HBW.out.mono Bw20.out.size))
            go_wp2_with fail
            refine (implAreInsured_any A1 xs.length c1 xs _ rfl (Rd.of_own HO1w.out) (by omega)).mono ?_
            rintro e wp ⟨rfl, bp⟩
            rw [← HQ.out]
            have HO1p := Lib.hid (own_below HO1w.out bp)
            have HBp := Lib.hid (HBr.out.trans (bp.mono HBr.out.size))
            clear bp
            go_wp2_with fail
            refine (specAreInsured_any A1 xs.length c1 xs _ rfl (Rd.of_own HO1p.out) (by omega)).mono ?_
            rintro e wq ⟨rfl, bq⟩
            rw [← HQ.out]
            have HBq := Lib.hid (HBp.out.trans (bq.mono HBp.out.size))
            clear bq
            go_wp2
            go_ret
            exact ⟨by first | rfl | (rw [hqq]; rfl), HBq.out⟩
          · obtain rfl : t = zi.length := by omega
            have HO1w := Lib.hid (own_below HO1.out HBW.out)
            have HBr := Lib.hid (Bw20.out.trans (HBW.out.mono Bw20.out.size))
            go_wp2_with fail
            refine (implAreInsured_any A1 xs.length c1 xs _ rfl (Rd.of_own HO1w.out) (by omega)).mono ?_
            rintro e wp ⟨rfl, bp⟩
            rw [← HQ.out]
            have HO1p := Lib.hid (own_below HO1w.out bp)
            have HBp := Lib.hid (HBr.out.trans (bp.mono HBr.out.size))
            clear bp
            go_wp2_with fail
            refine (specAreInsured_any A1 xs.length c1 xs _ rfl (Rd.of_own HO1p.out) (by omega)).mono ?_
            rintro e wq ⟨rfl, bq⟩
            rw [← HQ.out]
            have HBq := Lib.hid (HBp.out.trans (bq.mono HBp.out.size))
            clear bq
            go_wp2
            go_ret
            exact ⟨by first | rfl | (rw [hqq]; rfl), HBq.out⟩
      | true =>
        go_wp2_with fail
        go_loopw [44, 45, 46] (fun i _ _ wr => ∃ t : Nat, i = .int .i64 t ∧ t ≤ zi.length ∧ Below w20.heap.size w20 wr) (fun i _ _ _ => zi.length - (intOf i).toNat)
        case atStart => exact ⟨0, rfl, by omega, Below.refl _ _⟩
        case round =>
          obtain ⟨t, rfl, ht, hbw⟩ := hrel
          have HBW := Lib.hid hbw
          have hsw := hbw.size
          clear hbw
          by_cases htl : t < zi.length
          · have htl' : (t : Int) < (zi.length : Int) := by omega
            obtain ⟨g1, g2, g3⟩ := ui_fact HK.out.symm htl
            obtain ⟨z, hz⟩ : ∃ z, z = zi.getD t 0 := ⟨_, rfl⟩
            obtain ⟨y, hy_⟩ : ∃ y, y = ws.getD t 0 := ⟨_, rfl⟩
            rw [← hz, ← hy_] at g2 g3
            rw [← HU.out] at g3
            have ez : zi[t]? = some z := by rw [hz, List.getD_eq_getElem?_getD, List.getElem?_eq_getElem htl]; rfl
            have ey : ws[t]? = some y := by rw [hy_, List.getD_eq_getElem?_getD, List.getElem?_eq_getElem (by omega)]; rfl
            obtain ⟨gz, oz, eAi, hgz, cz⟩ := (HRi.out.below HBW.out).at1 ez
            obtain ⟨gy, oy, eAw, hgy, cy⟩ := (HRw.out.below HBW.out).at1 ey
            subst eAi; subst eAw
            have htw' : (t : Int) < (ws.length : Int) := by omega
            have ht0 : (0 : Int) ≤ (t : Int) := by omega
            obtain ⟨Pd, hPd⟩ : ∃ Pd, Pd = paidV us z at_ y := ⟨_, rfl⟩
            have CP := Lib.hid (fun w h => implPaidFor_any A8 us.length c8 us z at_ y w rfl h (by omega))
            rw [← hPd, g2] at CP
            rw [← hPd] at g3
            have CH := Lib.hid (fun w h => rHasR Av9 U.length cv9 U z w rfl h (by omega))
            rw [← g3] at CH
            have HR8w := Lib.hid (HR8.out.below HBW.out)
            have HRUw := Lib.hid (HRv9.out.below HBW.out)
            clear g1 g2 g3 hz hy_ ez ey hPd
            go_wp2_with fail
            refine wp_region_lat wr.heap.size (by kernel_rfl) (by kernel_rfl) ?_
            have LC := fun (u : Lat wr.heap.size wr) => u.cell
            repeat (go_big_quiet_step ((go_at_call 15; (with_reducible exact lat_call _ (Nat.le_refl _) (CP.out _ (HR8w.out.below (Lat.below _)))))))
            refine wpQuiet_nil ?_
            intro wb b1
            clear LC
            have hsb := b1.size
            have dz := (b1.cell (p := ⟨gz, oz + t, none⟩) hgz).trans cz
            have dy := (b1.cell (p := ⟨gy, oy + t, none⟩) hgy).trans cy
            have hgz2 : gz < wb.heap.size := by omega
            have hgy2 : gy < wb.heap.size := by omega
            have HRUb := Lib.hid (HRUw.out.below b1)
            have HBB := Lib.hid (HBW.out.trans (b1.mono hsw))
            clear cz cy b1
            by_cases hPy : Pd < y
            · rw [decide_eq_true hPy] at CH
              go_wp2_with fail
              refine wp_region_lat wb.heap.size (by kernel_rfl) (by kernel_rfl) ?_
              have LC := fun (u : Lat wb.heap.size wb) => u.cell
              repeat (go_big_quiet_step ((go_at_call 21; (with_reducible exact lat_call _ (Nat.le_refl _) (CH.out _ (HRUb.out.below (Lat.below _)))))))
              refine wpQuiet_nil ?_
              intro wc b2
              clear LC
              have HBC := Lib.hid (HBB.out.trans (b2.mono HBB.out.size))
              clear b2 dz dy
              go_wp2
              go_roundw
              case rel => exact ⟨t + 1, by go_num, by omega, HBC.out⟩
              case measure => simp [intOf]; omega
            · rw [decide_eq_false hPy] at CH
              have hPy2 : y ≤ Pd := by omega
              go_wp2_with fail
              refine wp_region_lat wb.heap.size (by kernel_rfl) (by kernel_rfl) ?_
              have LC := fun (u : Lat wb.heap.size wb) => u.cell
              repeat (go_big_quiet_step ((go_at_call 21; (with_reducible exact lat_call _ (Nat.le_refl _) (CH.out _ (HRUb.out.below (Lat.below _)))))))
              refine wpQuiet_nil ?_
              intro wc b2
              clear LC
              have HBC := Lib.hid (HBB.out.trans (b2.mono HBB.out.size))
              clear b2 dz dy
              go_wp2
              go_roundw
              case rel => exact ⟨t + 1, by go_num, by omega, HBC.out⟩
              case measure => simp [intOf]; omega
          · obtain rfl : t = zi.length := by omega
            have HO1w := Lib.hid (own_below HO1.out HBW.out)
            have HBr := Lib.hid (Bw20.out.trans (HBW.out.mono Bw20.out.size))
            go_wp2_with fail
            refine (implAreInsured_any A1 xs.length c1 xs _ rfl (Rd.of_own HO1w.out) (by omega)).mono ?_
            rintro e wp ⟨rfl, bp⟩
            rw [← HQ.out]
            have HO1p := Lib.hid (own_below HO1w.out bp)
            have HBp := Lib.hid (HBr.out.trans (bp.mono HBr.out.size))
            clear bp
            go_wp2_with fail
            refine (specAreInsured_any A1 xs.length c1 xs _ rfl (Rd.of_own HO1p.out) (by omega)).mono ?_
            rintro e wq ⟨rfl, bq⟩
            rw [← HQ.out]
            have HBq := Lib.hid (HBp.out.trans (bq.mono HBp.out.size))
            clear bq
            go_wp2
            go_ret
            exact ⟨by first | rfl | (rw [hqq]; rfl), HBq.out⟩
  | true =>
    obtain ⟨q1, q2, q3, q4, q5, q6, q7, q8, q9⟩ := add_facts HOK.out.symm
    rw [← HS.out] at q2 q4 q5 q6 q8 q9
    have hxd := (insB_bd (x := x) (by have h := HOK.out.symm; simp only [sgB, Bool.and_eq_true] at h; exact h.2.1)).2.2.2.2.1
    obtain ⟨a0, h_a0⟩ : ∃ a0, a0 = covV xs x.a x.b := ⟨_, rfl⟩
    have Ha0 := Lib.hid h_a0
    clear h_a0
    obtain ⟨a1, h_a1⟩ : ∃ a1, a1 = covV S x.a x.b := ⟨_, rfl⟩
    have Ha1 := Lib.hid h_a1
    clear h_a1
    obtain ⟨a2, h_a2⟩ : ∃ a2, a2 = covV xs x.a x.c := ⟨_, rfl⟩
    have Ha2 := Lib.hid h_a2
    clear h_a2
    obtain ⟨a3, h_a3⟩ : ∃ a3, a3 = covV S x.a x.c := ⟨_, rfl⟩
    have Ha3 := Lib.hid h_a3
    clear h_a3
    obtain ⟨p0, h_p0⟩ : ∃ p0, p0 = costV xs := ⟨_, rfl⟩
    have Hp0 := Lib.hid h_p0
    clear h_p0
    obtain ⟨p1, h_p1⟩ : ∃ p1, p1 = costV S := ⟨_, rfl⟩
    have Hp1 := Lib.hid h_p1
    clear h_p1
    have hw1 : IntKind.i64.wrap (a1 - a0) = x.d := by rw [Ha1.out, Ha0.out, q5]; exact IntWalk.i64_in _ (by omega)
    have hw2 : IntKind.i64.wrap (a3 - a2) = x.d := by rw [Ha3.out, Ha2.out, q6]; exact IntWalk.i64_in _ (by omega)
    have hpq : p0 < p1 := by rw [Hp0.out, Hp1.out]; exact q9
    have hpd : decide (p1 ≤ p0) = false := by simp; omega
    have Hq1 := Lib.hid q1
    have Hq2 := Lib.hid q2
    have Hq3 := Lib.hid q3
    have Hq4 := Lib.hid q4
    have Hq7 := Lib.hid q7
    have Hq8 := Lib.hid q8
    clear q1 q2 q3 q4 q5 q6 q7 q8 q9 hxd
    have y0 := KX.out.cell 0 _ rfl
    have y1 := KX.out.cell 1 _ rfl
    have y2 := KX.out.cell 2 _ rfl
    have y3 := KX.out.cell 3 _ rfl
    have y4 := KX.out.cell 4 _ rfl
    go_wp2_with fail
    clear y0 y1 y2 y3 y4
    refine (implCoverOn_any A1 xs.length c1 xs x.a x.b _ rfl (Rd.of_own HO1.out) (by omega)).mono ?_
    rintro e w21 ⟨rfl, b⟩
    rw [← Ha0.out, Hq1.out]
    have Bw21 := Lib.hid (Bw4.out.trans (b.mono Bw4.out.size))
    have HRv3' := Lib.hid (HRv3.out.below b)
    clear HRv3
    have HRv3 := HRv3'
    clear HRv3'
    have HO1' := Lib.hid (own_below HO1.out b)
    clear HO1
    have HO1 := HO1'
    clear HO1'
    have KX' := Lib.hid (KX.out.below b KX.out.lt)
    clear KX
    have KX := KX'
    clear KX'
    clear b
    have y0 := KX.out.cell 0 _ rfl
    have y1 := KX.out.cell 1 _ rfl
    have y2 := KX.out.cell 2 _ rfl
    have y3 := KX.out.cell 3 _ rfl
    have y4 := KX.out.cell 4 _ rfl
    go_wp2_with fail
    clear y0 y1 y2 y3 y4
    refine (implCoverOn_any Av3 S.length cv3 S x.a x.b _ rfl HRv3.out (by omega)).mono ?_
    rintro e w22 ⟨rfl, b⟩
    rw [← Ha1.out, Hq2.out]
    have Bw22 := Lib.hid (Bw21.out.trans (b.mono Bw21.out.size))
    have HRv3' := Lib.hid (HRv3.out.below b)
    clear HRv3
    have HRv3 := HRv3'
    clear HRv3'
    have HO1' := Lib.hid (own_below HO1.out b)
    clear HO1
    have HO1 := HO1'
    clear HO1'
    have KX' := Lib.hid (KX.out.below b KX.out.lt)
    clear KX
    have KX := KX'
    clear KX'
    clear b
    have y0 := KX.out.cell 0 _ rfl
    have y1 := KX.out.cell 1 _ rfl
    have y2 := KX.out.cell 2 _ rfl
    have y3 := KX.out.cell 3 _ rfl
    have y4 := KX.out.cell 4 _ rfl
    go_wp2_with fail
    clear y0 y1 y2 y3 y4
    refine (implCoverOn_any A1 xs.length c1 xs x.a x.c _ rfl (Rd.of_own HO1.out) (by omega)).mono ?_
    rintro e w23 ⟨rfl, b⟩
    rw [← Ha2.out, Hq3.out]
    have Bw23 := Lib.hid (Bw22.out.trans (b.mono Bw22.out.size))
    have HRv3' := Lib.hid (HRv3.out.below b)
    clear HRv3
    have HRv3 := HRv3'
    clear HRv3'
    have HO1' := Lib.hid (own_below HO1.out b)
    clear HO1
    have HO1 := HO1'
    clear HO1'
    have KX' := Lib.hid (KX.out.below b KX.out.lt)
    clear KX
    have KX := KX'
    clear KX'
    clear b
    have y0 := KX.out.cell 0 _ rfl
    have y1 := KX.out.cell 1 _ rfl
    have y2 := KX.out.cell 2 _ rfl
    have y3 := KX.out.cell 3 _ rfl
    have y4 := KX.out.cell 4 _ rfl
    go_wp2_with fail
    clear y0 y1 y2 y3 y4
    refine (implCoverOn_any Av3 S.length cv3 S x.a x.c _ rfl HRv3.out (by omega)).mono ?_
    rintro e w24 ⟨rfl, b⟩
    rw [← Ha3.out, Hq4.out]
    have Bw24 := Lib.hid (Bw23.out.trans (b.mono Bw23.out.size))
    have HRv3' := Lib.hid (HRv3.out.below b)
    clear HRv3
    have HRv3 := HRv3'
    clear HRv3'
    have HO1' := Lib.hid (own_below HO1.out b)
    clear HO1
    have HO1 := HO1'
    clear HO1'
    have KX' := Lib.hid (KX.out.below b KX.out.lt)
    clear KX
    have KX := KX'
    clear KX'
    clear b
    have y0 := KX.out.cell 0 _ rfl
    have y1 := KX.out.cell 1 _ rfl
    have y2 := KX.out.cell 2 _ rfl
    have y3 := KX.out.cell 3 _ rfl
    have y4 := KX.out.cell 4 _ rfl
    go_wp2_with fail
    clear y0 y1 y2 y3 y4
    refine (implCostOfAll_any A1 xs.length c1 xs _ rfl (Rd.of_own HO1.out) (by omega)).mono ?_
    rintro e w25 ⟨rfl, b⟩
    rw [← Hp0.out, Hq7.out]
    have Bw25 := Lib.hid (Bw24.out.trans (b.mono Bw24.out.size))
    have HRv3' := Lib.hid (HRv3.out.below b)
    clear HRv3
    have HRv3 := HRv3'
    clear HRv3'
    have HO1' := Lib.hid (own_below HO1.out b)
    clear HO1
    have HO1 := HO1'
    clear HO1'
    have KX' := Lib.hid (KX.out.below b KX.out.lt)
    clear KX
    have KX := KX'
    clear KX'
    clear b
    have y0 := KX.out.cell 0 _ rfl
    have y1 := KX.out.cell 1 _ rfl
    have y2 := KX.out.cell 2 _ rfl
    have y3 := KX.out.cell 3 _ rfl
    have y4 := KX.out.cell 4 _ rfl
    go_wp2_with fail
    clear y0 y1 y2 y3 y4
    refine (implCostOfAll_any Av3 S.length cv3 S _ rfl HRv3.out (by omega)).mono ?_
    rintro e w26 ⟨rfl, b⟩
    rw [← Hp1.out, Hq8.out]
    have Bw26 := Lib.hid (Bw25.out.trans (b.mono Bw25.out.size))
    have HRv3' := Lib.hid (HRv3.out.below b)
    clear HRv3
    have HRv3 := HRv3'
    clear HRv3'
    have HO1' := Lib.hid (own_below HO1.out b)
    clear HO1
    have HO1 := HO1'
    clear HO1'
    have KX' := Lib.hid (KX.out.below b KX.out.lt)
    clear KX
    have KX := KX'
    clear KX'
    clear b
    have y0 := KX.out.cell 0 _ rfl
    have y1 := KX.out.cell 1 _ rfl
    have y2 := KX.out.cell 2 _ rfl
    have y3 := KX.out.cell 3 _ rfl
    have y4 := KX.out.cell 4 _ rfl
    go_wp2_with fail
    clear y0 y1 y2 y3 y4
    refine (D2.out _ (HY.out.below Bw26.out)).mono ?_
    rintro e w27 ⟨v5, ys, item, day, worth, rfl, hl, b⟩
    have Bw27 := Lib.hid (Bw26.out.trans (b.mono Bw26.out.size))
    have HO1' := Lib.hid (own_below HO1.out b)
    clear HO1
    have HO1 := HO1'
    clear HO1'
    clear KX
    obtain ⟨A5, c5, rfl, r5, h5, h5m⟩ := hl.form
    have hy := hl.len
    have HR5 := Lib.hid r5
    clear r5 hl b
    obtain ⟨fine, h_fine⟩ : ∃ fine, fine = paidB ys item day worth := ⟨_, rfl⟩
    have HF := Lib.hid h_fine
    clear h_fine
    obtain ⟨Pt, h_Pt⟩ : ∃ Pt, Pt = partsV ys item day worth := ⟨_, rfl⟩
    have HPT := Lib.hid h_Pt
    clear h_Pt
    have hPt : Pt.length ≤ 12 := by rw [HPT.out]; exact parts_len ys item day worth
    obtain ⟨pd, h_pd⟩ : ∃ pd, pd = paidV ys item day worth := ⟨_, rfl⟩
    have HPD := Lib.hid h_pd
    clear h_pd
    go_wp2_with fail
    refine (implPartsPaid_any A5 ys.length c5 ys item day worth _ rfl HR5.out (by omega)).mono ?_
    rintro e w28 ⟨v6, rfl, o, b⟩
    rw [← HF.out]
    rw [← HPT.out] at o
    obtain ⟨Av6, cv6, rfl⟩ := own_form o
    have Bw28 := Lib.hid (Bw27.out.trans (b.mono Bw27.out.size))
    have HR5' := Lib.hid (HR5.out.below b)
    clear HR5
    have HR5 := HR5'
    clear HR5'
    have HO1' := Lib.hid (own_below HO1.out b)
    clear HO1
    have HO1 := HO1'
    clear HO1'
    have HRv6 := Lib.hid (Rd.of_own o)
    clear o b
    go_wp2_with fail
    refine (specPartsPaid_any A5 ys.length c5 ys item day worth _ rfl HR5.out (by omega)).mono ?_
    rintro e w29 ⟨v7, rfl, o, b⟩
    rw [← HF.out]
    rw [← HPT.out] at o
    obtain ⟨Av7, cv7, rfl⟩ := own_form o
    have Bw29 := Lib.hid (Bw28.out.trans (b.mono Bw28.out.size))
    have HR5' := Lib.hid (HR5.out.below b)
    clear HR5
    have HR5 := HR5'
    clear HR5'
    have HRv6' := Lib.hid (HRv6.out.below b)
    clear HRv6
    have HRv6 := HRv6'
    clear HRv6'
    have HO1' := Lib.hid (own_below HO1.out b)
    clear HO1
    have HO1 := HO1'
    clear HO1'
    have HRv7 := Lib.hid (Rd.of_own o)
    clear o b
    go_wp2_with fail
    refine (rInts_same _ _ _ _ _ Pt _ rfl HRv6.out HRv7.out (by omega)).mono ?_
    rintro e w30 ⟨rfl, b⟩
    have Bw30 := Lib.hid (Bw29.out.trans (b.mono Bw29.out.size))
    have HR5' := Lib.hid (HR5.out.below b)
    clear HR5
    have HR5 := HR5'
    clear HR5'
    have HRv6' := Lib.hid (HRv6.out.below b)
    clear HRv6
    have HRv6 := HRv6'
    clear HRv6'
    have HO1' := Lib.hid (own_below HO1.out b)
    clear HO1
    have HO1 := HO1'
    clear HO1'
    clear b
    go_wp2_with fail
    refine (implPaidFor_any A5 ys.length c5 ys item day worth _ rfl HR5.out (by omega)).mono ?_
    rintro e w31 ⟨rfl, b⟩
    rw [← HPD.out, ← HF.out]
    have Bw31 := Lib.hid (Bw30.out.trans (b.mono Bw30.out.size))
    have HR5' := Lib.hid (HR5.out.below b)
    clear HR5
    have HR5 := HR5'
    clear HR5'
    have HRv6' := Lib.hid (HRv6.out.below b)
    clear HRv6
    have HRv6 := HRv6'
    clear HRv6'
    have HO1' := Lib.hid (own_below HO1.out b)
    clear HO1
    have HO1 := HO1'
    clear HO1'
    clear b
    go_wp2_with fail
    refine (specPaidFor_any A5 ys.length c5 ys item day worth _ rfl HR5.out (by omega)).mono ?_
    rintro e w32 ⟨rfl, b⟩
    rw [← HPD.out, ← HF.out]
    have Bw32 := Lib.hid (Bw31.out.trans (b.mono Bw31.out.size))
    have HR5' := Lib.hid (HR5.out.below b)
    clear HR5
    have HR5 := HR5'
    clear HR5'
    have HRv6' := Lib.hid (HRv6.out.below b)
    clear HRv6
    have HRv6 := HRv6'
    clear HRv6'
    have HO1' := Lib.hid (own_below HO1.out b)
    clear HO1
    have HO1 := HO1'
    clear HO1'
    clear b
    have hne : (pd != pd) = false := by simp
    cases fine with
    | false =>
      go_wp2_with fail
      refine (D3.out _ (HY.out.below Bw32.out)).mono ?_
      rintro e w33 ⟨v8, us, vi, zi, vw, ws, at_, rfl, hl, hi, hw, b⟩
      have Bw33 := Lib.hid (Bw32.out.trans (b.mono Bw32.out.size))
      have HO1' := Lib.hid (own_below HO1.out b)
      clear HO1
      have HO1 := HO1'
      clear HO1'
      obtain ⟨A8, c8, rfl, r8, h8, h8m⟩ := hl.form
      obtain ⟨Ai, ci, rfl, ri, hi1, hi2⟩ := hi.form
      obtain ⟨Aw, cw, rfl, rw_, hw1_, hw2_⟩ := hw.form
      have hu22 := hl.len
      have hzi := hi.len
      have hwsl := hw.len
      have HR8 := Lib.hid r8
      have HRi := Lib.hid ri
      have HRw := Lib.hid rw_
      clear r8 ri rw_ hl hi hw b
      obtain ⟨kn, h_kn⟩ : ∃ kn, kn = uiB us zi ws at_ := ⟨_, rfl⟩
      have HK := Lib.hid h_kn
      clear h_kn
      obtain ⟨U, h_U⟩ : ∃ U, U = uiV us zi ws at_ := ⟨_, rfl⟩
      have HU := Lib.hid h_U
      clear h_U
      have hUl : U.length ≤ 12 := by rw [HU.out]; exact ui_len us zi ws at_
      go_wp2_with fail
      refine (implUnderInsured_any A8 us.length c8 us Ai zi.length ci zi Aw ws.length cw ws at_ _ rfl HR8.out (by omega) rfl HRi.out (by omega) rfl HRw.out (by omega)).mono ?_
      rintro e w34 ⟨v9, rfl, o, b⟩
      rw [← HK.out]
      rw [← HU.out] at o
      obtain ⟨Av9, cv9, rfl⟩ := own_form o
      have Bw34 := Lib.hid (Bw33.out.trans (b.mono Bw33.out.size))
      have HR8' := Lib.hid (HR8.out.below b)
      clear HR8
      have HR8 := HR8'
      clear HR8'
      have HRi' := Lib.hid (HRi.out.below b)
      clear HRi
      have HRi := HRi'
      clear HRi'
      have HRw' := Lib.hid (HRw.out.below b)
      clear HRw
      have HRw := HRw'
      clear HRw'
      have HO1' := Lib.hid (own_below HO1.out b)
      clear HO1
      have HO1 := HO1'
      clear HO1'
      have HRv9 := Lib.hid (Rd.of_own o)
      clear o b
      go_wp2_with fail
      refine (specUnderInsured_any A8 us.length c8 us Ai zi.length ci zi Aw ws.length cw ws at_ _ rfl HR8.out (by omega) rfl HRi.out (by omega) rfl HRw.out (by omega)).mono ?_
      rintro e w35 ⟨va, rfl, o, b⟩
      rw [← HK.out]
      rw [← HU.out] at o
      obtain ⟨Ava, cva, rfl⟩ := own_form o
      have Bw35 := Lib.hid (Bw34.out.trans (b.mono Bw34.out.size))
      have HR8' := Lib.hid (HR8.out.below b)
      clear HR8
      have HR8 := HR8'
      clear HR8'
      have HRi' := Lib.hid (HRi.out.below b)
      clear HRi
      have HRi := HRi'
      clear HRi'
      have HRw' := Lib.hid (HRw.out.below b)
      clear HRw
      have HRw := HRw'
      clear HRw'
      have HRv9' := Lib.hid (HRv9.out.below b)
      clear HRv9
      have HRv9 := HRv9'
      clear HRv9'
      have HO1' := Lib.hid (own_below HO1.out b)
      clear HO1
      have HO1 := HO1'
      clear HO1'
      have HRva := Lib.hid (Rd.of_own o)
      clear o b
      go_wp2_with fail
      refine (rInts_same _ _ _ _ _ U _ rfl HRv9.out HRva.out (by omega)).mono ?_
      rintro e w36 ⟨rfl, b⟩
      have Bw36 := Lib.hid (Bw35.out.trans (b.mono Bw35.out.size))
      have HR8' := Lib.hid (HR8.out.below b)
      clear HR8
      have HR8 := HR8'
      clear HR8'
      have HRi' := Lib.hid (HRi.out.below b)
      clear HRi
      have HRi := HRi'
      clear HRi'
      have HRw' := Lib.hid (HRw.out.below b)
      clear HRw
      have HRw := HRw'
      clear HRw'
      have HRv9' := Lib.hid (HRv9.out.below b)
      clear HRv9
      have HRv9 := HRv9'
      clear HRv9'
      have HO1' := Lib.hid (own_below HO1.out b)
      clear HO1
      have HO1 := HO1'
      clear HO1'
      clear b
      obtain ⟨q, h_q⟩ : ∃ q, q = insL xs := ⟨_, rfl⟩
      have HQ := Lib.hid h_q
      clear h_q
      have hqq : (q == q) = true := by simp
      cases kn with
      | false =>
        go_wp2_with fail
        go_loopw [44, 45, 46] (fun i _ _ wr => ∃ t : Nat, i = .int .i64 t ∧ t ≤ zi.length ∧ Below w36.heap.size w36 wr) (fun i _ _ _ => zi.length - (intOf i).toNat)
        case atStart => exact ⟨0, rfl, by omega, Below.refl _ _⟩
        case round =>
          obtain ⟨t, rfl, ht, hbw⟩ := hrel
          have HBW := Lib.hid hbw
          have hsw := hbw.size
          clear hbw
          by_cases htl : t < zi.length
          · have htl' : (t : Int) < (zi.length : Int) := by omega
            have HO1w := Lib.hid (own_below HO1.out HBW.out)
            have HBr := Lib.hid (Bw36.out.trans (HBW.out.mono Bw36.out.size))
            go_wp2_with fail
            refine (implAreInsured_any A1 xs.length c1 xs _ rfl (Rd.of_own HO1w.out) (by omega)).mono ?_
            rintro e wp ⟨rfl, bp⟩
            rw [← HQ.out]
            have HO1p := Lib.hid (own_below HO1w.out bp)
            have HBp := Lib.hid (HBr.out.trans (bp.mono HBr.out.size))
            clear bp
            go_wp2_with fail
            refine (specAreInsured_any A1 xs.length c1 xs _ rfl (Rd.of_own HO1p.out) (by omega)).mono ?_
            rintro e wq ⟨rfl, bq⟩
            rw [← HQ.out]
            have HBq := Lib.hid (HBp.out.trans (bq.mono HBp.out.size))
            clear bq
            go_wp2
            go_ret
            exact ⟨by first | rfl | (rw [hqq]; rfl), HBq.out⟩
          · obtain rfl : t = zi.length := by omega
            have HO1w := Lib.hid (own_below HO1.out HBW.out)
            have HBr := Lib.hid (Bw36.out.trans (HBW.out.mono Bw36.out.size))
            go_wp2_with fail
            refine (implAreInsured_any A1 xs.length c1 xs _ rfl (Rd.of_own HO1w.out) (by omega)).mono ?_
            rintro e wp ⟨rfl, bp⟩
            rw [← HQ.out]
            have HO1p := Lib.hid (own_below HO1w.out bp)
            have HBp := Lib.hid (HBr.out.trans (bp.mono HBr.out.size))
            clear bp
            go_wp2_with fail
            refine (specAreInsured_any A1 xs.length c1 xs _ rfl (Rd.of_own HO1p.out) (by omega)).mono ?_
            rintro e wq ⟨rfl, bq⟩
            rw [← HQ.out]
            have HBq := Lib.hid (HBp.out.trans (bq.mono HBp.out.size))
            clear bq
            go_wp2
            go_ret
            exact ⟨by first | rfl | (rw [hqq]; rfl), HBq.out⟩
      | true =>
        go_wp2_with fail
        go_loopw [44, 45, 46] (fun i _ _ wr => ∃ t : Nat, i = .int .i64 t ∧ t ≤ zi.length ∧ Below w36.heap.size w36 wr) (fun i _ _ _ => zi.length - (intOf i).toNat)
        case atStart => exact ⟨0, rfl, by omega, Below.refl _ _⟩
        case round =>
          obtain ⟨t, rfl, ht, hbw⟩ := hrel
          have HBW := Lib.hid hbw
          have hsw := hbw.size
          clear hbw
          by_cases htl : t < zi.length
          · have htl' : (t : Int) < (zi.length : Int) := by omega
            obtain ⟨g1, g2, g3⟩ := ui_fact HK.out.symm htl
            obtain ⟨z, hz⟩ : ∃ z, z = zi.getD t 0 := ⟨_, rfl⟩
            obtain ⟨y, hy_⟩ : ∃ y, y = ws.getD t 0 := ⟨_, rfl⟩
            rw [← hz, ← hy_] at g2 g3
            rw [← HU.out] at g3
            have ez : zi[t]? = some z := by rw [hz, List.getD_eq_getElem?_getD, List.getElem?_eq_getElem htl]; rfl
            have ey : ws[t]? = some y := by rw [hy_, List.getD_eq_getElem?_getD, List.getElem?_eq_getElem (by omega)]; rfl
            obtain ⟨gz, oz, eAi, hgz, cz⟩ := (HRi.out.below HBW.out).at1 ez
            obtain ⟨gy, oy, eAw, hgy, cy⟩ := (HRw.out.below HBW.out).at1 ey
            subst eAi; subst eAw
            have htw' : (t : Int) < (ws.length : Int) := by omega
            have ht0 : (0 : Int) ≤ (t : Int) := by omega
            obtain ⟨Pd, hPd⟩ : ∃ Pd, Pd = paidV us z at_ y := ⟨_, rfl⟩
            have CP := Lib.hid (fun w h => implPaidFor_any A8 us.length c8 us z at_ y w rfl h (by omega))
            rw [← hPd, g2] at CP
            rw [← hPd] at g3
            have CH := Lib.hid (fun w h => rHasR Av9 U.length cv9 U z w rfl h (by omega))
            rw [← g3] at CH
            have HR8w := Lib.hid (HR8.out.below HBW.out)
            have HRUw := Lib.hid (HRv9.out.below HBW.out)
            clear g1 g2 g3 hz hy_ ez ey hPd
            go_wp2_with fail
            refine wp_region_lat wr.heap.size (by kernel_rfl) (by kernel_rfl) ?_
            have LC := fun (u : Lat wr.heap.size wr) => u.cell
            repeat (go_big_quiet_step ((go_at_call 15; (with_reducible exact lat_call _ (Nat.le_refl _) (CP.out _ (HR8w.out.below (Lat.below _)))))))
            refine wpQuiet_nil ?_
            intro wb b1
            clear LC
            have hsb := b1.size
            have dz := (b1.cell (p := ⟨gz, oz + t, none⟩) hgz).trans cz
            have dy := (b1.cell (p := ⟨gy, oy + t, none⟩) hgy).trans cy
            have hgz2 : gz < wb.heap.size := by omega
            have hgy2 : gy < wb.heap.size := by omega
            have HRUb := Lib.hid (HRUw.out.below b1)
            have HBB := Lib.hid (HBW.out.trans (b1.mono hsw))
            clear cz cy b1
            by_cases hPy : Pd < y
            · rw [decide_eq_true hPy] at CH
              go_wp2_with fail
              refine wp_region_lat wb.heap.size (by kernel_rfl) (by kernel_rfl) ?_
              have LC := fun (u : Lat wb.heap.size wb) => u.cell
              repeat (go_big_quiet_step ((go_at_call 21; (with_reducible exact lat_call _ (Nat.le_refl _) (CH.out _ (HRUb.out.below (Lat.below _)))))))
              refine wpQuiet_nil ?_
              intro wc b2
              clear LC
              have HBC := Lib.hid (HBB.out.trans (b2.mono HBB.out.size))
              clear b2 dz dy
              go_wp2
              go_roundw
              case rel => exact ⟨t + 1, by go_num, by omega, HBC.out⟩
              case measure => simp [intOf]; omega
            · rw [decide_eq_false hPy] at CH
              have hPy2 : y ≤ Pd := by omega
              go_wp2_with fail
              refine wp_region_lat wb.heap.size (by kernel_rfl) (by kernel_rfl) ?_
              have LC := fun (u : Lat wb.heap.size wb) => u.cell
              repeat (go_big_quiet_step ((go_at_call 21; (with_reducible exact lat_call _ (Nat.le_refl _) (CH.out _ (HRUb.out.below (Lat.below _)))))))
              refine wpQuiet_nil ?_
              intro wc b2
              clear LC
              have HBC := Lib.hid (HBB.out.trans (b2.mono HBB.out.size))
              clear b2 dz dy
              go_wp2
              go_roundw
              case rel => exact ⟨t + 1, by go_num, by omega, HBC.out⟩
              case measure => simp [intOf]; omega
          · obtain rfl : t = zi.length := by omega
            have HO1w := Lib.hid (own_below HO1.out HBW.out)
            have HBr := Lib.hid (Bw36.out.trans (HBW.out.mono Bw36.out.size))
            go_wp2_with fail
            refine (implAreInsured_any A1 xs.length c1 xs _ rfl (Rd.of_own HO1w.out) (by omega)).mono ?_
            rintro e wp ⟨rfl, bp⟩
            rw [← HQ.out]
            have HO1p := Lib.hid (own_below HO1w.out bp)
            have HBp := Lib.hid (HBr.out.trans (bp.mono HBr.out.size))
            clear bp
            go_wp2_with fail
            refine (specAreInsured_any A1 xs.length c1 xs _ rfl (Rd.of_own HO1p.out) (by omega)).mono ?_
            rintro e wq ⟨rfl, bq⟩
            rw [← HQ.out]
            have HBq := Lib.hid (HBp.out.trans (bq.mono HBp.out.size))
            clear bq
            go_wp2
            go_ret
            exact ⟨by first | rfl | (rw [hqq]; rfl), HBq.out⟩
    | true =>
      obtain ⟨f1, f2, f3, f4, f5, f6, f7, f8⟩ := paid_facts HF.out.symm
      rw [← HPT.out] at f4 f5 f6 f8
      rw [← HPD.out] at f2 f3 f4 f5 f7
      obtain ⟨cv, h_cv⟩ : ∃ cv, cv = covV ys item day := ⟨_, rfl⟩
      have HCV := Lib.hid h_cv
      clear h_cv
      rw [← HCV.out] at f2
      obtain ⟨sm, h_sm⟩ : ∃ sm, sm = Pt.sum := ⟨_, rfl⟩
      have HSM := Lib.hid h_sm
      clear h_sm
      rw [← HSM.out] at f4 f5 f8
      have HF1 := Lib.hid f1
      have hsm : wrap64 Pt.sum = sm := by rw [← HSM.out]; exact IntWalk.wrap64_in sm (by omega)
      have CV := Lib.hid (fun w h => rSum_any Av6 Pt.length cv6 Pt w rfl h (by omega))
      rw [hsm] at CV
      have hw1 : IntKind.i64.wrap (pd - sm) = pd - sm := IntWalk.i64_in _ (by omega)
      have hl1 : (Pt.length != ys.length) = false := by simp; omega
      have hl2 : ((Pt.length : Int) != (ys.length : Int)) = false := by simp; omega
      have g1 : decide (cv < pd) = false := by simp; omega
      have g2 : decide (worth < pd) = false := by simp; omega
      have g3 : decide (pd < sm) = false := by simp; omega
      have g4 : decide ((ys.length : Int) < pd - sm) = false := by simp; omega
      clear f1 f6 f7 f8 hsm
      go_wp2_with fail
      refine (implCoverOn_any A5 ys.length c5 ys item day _ rfl HR5.out (by omega)).mono ?_
      rintro e w37 ⟨rfl, b⟩
      rw [← HCV.out, HF1.out]
      have Bw37 := Lib.hid (Bw32.out.trans (b.mono Bw32.out.size))
      have HR5' := Lib.hid (HR5.out.below b)
      clear HR5
      have HR5 := HR5'
      clear HR5'
      have HRv6' := Lib.hid (HRv6.out.below b)
      clear HRv6
      have HRv6 := HRv6'
      clear HRv6'
      have HO1' := Lib.hid (own_below HO1.out b)
      clear HO1
      have HO1 := HO1'
      clear HO1'
      clear b
      go_wp2_with fail
      refine (CV.out _ HRv6.out).mono ?_
      rintro e w38 ⟨rfl, rfl⟩
      go_wp2_with fail
      refine (D3.out _ (HY.out.below Bw37.out)).mono ?_
      rintro e w39 ⟨v8, us, vi, zi, vw, ws, at_, rfl, hl, hi, hw, b⟩
      have Bw39 := Lib.hid (Bw37.out.trans (b.mono Bw37.out.size))
      have HO1' := Lib.hid (own_below HO1.out b)
      clear HO1
      have HO1 := HO1'
      clear HO1'
      obtain ⟨A8, c8, rfl, r8, h8, h8m⟩ := hl.form
      obtain ⟨Ai, ci, rfl, ri, hi1, hi2⟩ := hi.form
      obtain ⟨Aw, cw, rfl, rw_, hw1_, hw2_⟩ := hw.form
      have hu22 := hl.len
      have hzi := hi.len
      have hwsl := hw.len
      have HR8 := Lib.hid r8
      have HRi := Lib.hid ri
      have HRw := Lib.hid rw_
      clear r8 ri rw_ hl hi hw b
      obtain ⟨kn, h_kn⟩ : ∃ kn, kn = uiB us zi ws at_ := ⟨_, rfl⟩
      have HK := Lib.hid h_kn
      clear h_kn
      obtain ⟨U, h_U⟩ : ∃ U, U = uiV us zi ws at_ := ⟨_, rfl⟩
      have HU := Lib.hid h_U
      clear h_U
      have hUl : U.length ≤ 12 := by rw [HU.out]; exact ui_len us zi ws at_
      go_wp2_with fail
      refine (implUnderInsured_any A8 us.length c8 us Ai zi.length ci zi Aw ws.length cw ws at_ _ rfl HR8.out (by omega) rfl HRi.out (by omega) rfl HRw.out (by omega)).mono ?_
      rintro e w40 ⟨v9, rfl, o, b⟩
      rw [← HK.out]
      rw [← HU.out] at o
      obtain ⟨Av9, cv9, rfl⟩ := own_form o
      have Bw40 := Lib.hid (Bw39.out.trans (b.mono Bw39.out.size))
      have HR8' := Lib.hid (HR8.out.below b)
      clear HR8
      have HR8 := HR8'
      clear HR8'
      have HRi' := Lib.hid (HRi.out.below b)
      clear HRi
      have HRi := HRi'
      clear HRi'
      have HRw' := Lib.hid (HRw.out.below b)
      clear HRw
      have HRw := HRw'
      clear HRw'
      have HO1' := Lib.hid (own_below HO1.out b)
      clear HO1
      have HO1 := HO1'
      clear HO1'
      have HRv9 := Lib.hid (Rd.of_own o)
      clear o b
      go_wp2_with fail
      refine (specUnderInsured_any A8 us.length c8 us Ai zi.length ci zi Aw ws.length cw ws at_ _ rfl HR8.out (by omega) rfl HRi.out (by omega) rfl HRw.out (by omega)).mono ?_
      rintro e w41 ⟨va, rfl, o, b⟩
      rw [← HK.out]
      rw [← HU.out] at o
      obtain ⟨Ava, cva, rfl⟩ := own_form o
      have Bw41 := Lib.hid (Bw40.out.trans (b.mono Bw40.out.size))
      have HR8' := Lib.hid (HR8.out.below b)
      clear HR8
      have HR8 := HR8'
      clear HR8'
      have HRi' := Lib.hid (HRi.out.below b)
      clear HRi
      have HRi := HRi'
      clear HRi'
      have HRw' := Lib.hid (HRw.out.below b)
      clear HRw
      have HRw := HRw'
      clear HRw'
      have HRv9' := Lib.hid (HRv9.out.below b)
      clear HRv9
      have HRv9 := HRv9'
      clear HRv9'
      have HO1' := Lib.hid (own_below HO1.out b)
      clear HO1
      have HO1 := HO1'
      clear HO1'
      have HRva := Lib.hid (Rd.of_own o)
      clear o b
      go_wp2_with fail
      refine (rInts_same _ _ _ _ _ U _ rfl HRv9.out HRva.out (by omega)).mono ?_
      rintro e w42 ⟨rfl, b⟩
      have Bw42 := Lib.hid (Bw41.out.trans (b.mono Bw41.out.size))
      have HR8' := Lib.hid (HR8.out.below b)
      clear HR8
      have HR8 := HR8'
      clear HR8'
      have HRi' := Lib.hid (HRi.out.below b)
      clear HRi
      have HRi := HRi'
      clear HRi'
      have HRw' := Lib.hid (HRw.out.below b)
      clear HRw
      have HRw := HRw'
      clear HRw'
      have HRv9' := Lib.hid (HRv9.out.below b)
      clear HRv9
      have HRv9 := HRv9'
      clear HRv9'
      have HO1' := Lib.hid (own_below HO1.out b)
      clear HO1
      have HO1 := HO1'
      clear HO1'
      clear b
      obtain ⟨q, h_q⟩ : ∃ q, q = insL xs := ⟨_, rfl⟩
      have HQ := Lib.hid h_q
      clear h_q
      have hqq : (q == q) = true := by simp
      cases kn with
      | false =>
        go_wp2_with fail
        go_loopw [44, 45, 46] (fun i _ _ wr => ∃ t : Nat, i = .int .i64 t ∧ t ≤ zi.length ∧ Below w42.heap.size w42 wr) (fun i _ _ _ => zi.length - (intOf i).toNat)
        case atStart => exact ⟨0, rfl, by omega, Below.refl _ _⟩
        case round =>
          obtain ⟨t, rfl, ht, hbw⟩ := hrel
          have HBW := Lib.hid hbw
          have hsw := hbw.size
          clear hbw
          by_cases htl : t < zi.length
          · have htl' : (t : Int) < (zi.length : Int) := by omega
            have HO1w := Lib.hid (own_below HO1.out HBW.out)
            have HBr := Lib.hid (Bw42.out.trans (HBW.out.mono Bw42.out.size))
            go_wp2_with fail
            refine (implAreInsured_any A1 xs.length c1 xs _ rfl (Rd.of_own HO1w.out) (by omega)).mono ?_
            rintro e wp ⟨rfl, bp⟩
            rw [← HQ.out]
            have HO1p := Lib.hid (own_below HO1w.out bp)
            have HBp := Lib.hid (HBr.out.trans (bp.mono HBr.out.size))
            clear bp
            go_wp2_with fail
            refine (specAreInsured_any A1 xs.length c1 xs _ rfl (Rd.of_own HO1p.out) (by omega)).mono ?_
            rintro e wq ⟨rfl, bq⟩
            rw [← HQ.out]
            have HBq := Lib.hid (HBp.out.trans (bq.mono HBp.out.size))
            clear bq
            go_wp2
            go_ret
            exact ⟨by first | rfl | (rw [hqq]; rfl), HBq.out⟩
          · obtain rfl : t = zi.length := by omega
            have HO1w := Lib.hid (own_below HO1.out HBW.out)
            have HBr := Lib.hid (Bw42.out.trans (HBW.out.mono Bw42.out.size))
            go_wp2_with fail
            refine (implAreInsured_any A1 xs.length c1 xs _ rfl (Rd.of_own HO1w.out) (by omega)).mono ?_
            rintro e wp ⟨rfl, bp⟩
            rw [← HQ.out]
            have HO1p := Lib.hid (own_below HO1w.out bp)
            have HBp := Lib.hid (HBr.out.trans (bp.mono HBr.out.size))
            clear bp
            go_wp2_with fail
            refine (specAreInsured_any A1 xs.length c1 xs _ rfl (Rd.of_own HO1p.out) (by omega)).mono ?_
            rintro e wq ⟨rfl, bq⟩
            rw [← HQ.out]
            have HBq := Lib.hid (HBp.out.trans (bq.mono HBp.out.size))
            clear bq
            go_wp2
            go_ret
            exact ⟨by first | rfl | (rw [hqq]; rfl), HBq.out⟩
      | true =>
        go_wp2_with fail
        go_loopw [44, 45, 46] (fun i _ _ wr => ∃ t : Nat, i = .int .i64 t ∧ t ≤ zi.length ∧ Below w42.heap.size w42 wr) (fun i _ _ _ => zi.length - (intOf i).toNat)
        case atStart => exact ⟨0, rfl, by omega, Below.refl _ _⟩
        case round =>
          obtain ⟨t, rfl, ht, hbw⟩ := hrel
          have HBW := Lib.hid hbw
          have hsw := hbw.size
          clear hbw
          by_cases htl : t < zi.length
          · have htl' : (t : Int) < (zi.length : Int) := by omega
            obtain ⟨g1, g2, g3⟩ := ui_fact HK.out.symm htl
            obtain ⟨z, hz⟩ : ∃ z, z = zi.getD t 0 := ⟨_, rfl⟩
            obtain ⟨y, hy_⟩ : ∃ y, y = ws.getD t 0 := ⟨_, rfl⟩
            rw [← hz, ← hy_] at g2 g3
            rw [← HU.out] at g3
            have ez : zi[t]? = some z := by rw [hz, List.getD_eq_getElem?_getD, List.getElem?_eq_getElem htl]; rfl
            have ey : ws[t]? = some y := by rw [hy_, List.getD_eq_getElem?_getD, List.getElem?_eq_getElem (by omega)]; rfl
            obtain ⟨gz, oz, eAi, hgz, cz⟩ := (HRi.out.below HBW.out).at1 ez
            obtain ⟨gy, oy, eAw, hgy, cy⟩ := (HRw.out.below HBW.out).at1 ey
            subst eAi; subst eAw
            have htw' : (t : Int) < (ws.length : Int) := by omega
            have ht0 : (0 : Int) ≤ (t : Int) := by omega
            obtain ⟨Pd, hPd⟩ : ∃ Pd, Pd = paidV us z at_ y := ⟨_, rfl⟩
            have CP := Lib.hid (fun w h => implPaidFor_any A8 us.length c8 us z at_ y w rfl h (by omega))
            rw [← hPd, g2] at CP
            rw [← hPd] at g3
            have CH := Lib.hid (fun w h => rHasR Av9 U.length cv9 U z w rfl h (by omega))
            rw [← g3] at CH
            have HR8w := Lib.hid (HR8.out.below HBW.out)
            have HRUw := Lib.hid (HRv9.out.below HBW.out)
            clear g1 g2 g3 hz hy_ ez ey hPd
            go_wp2_with fail
            refine wp_region_lat wr.heap.size (by kernel_rfl) (by kernel_rfl) ?_
            have LC := fun (u : Lat wr.heap.size wr) => u.cell
            repeat (go_big_quiet_step ((go_at_call 15; (with_reducible exact lat_call _ (Nat.le_refl _) (CP.out _ (HR8w.out.below (Lat.below _)))))))
            refine wpQuiet_nil ?_
            intro wb b1
            clear LC
            have hsb := b1.size
            have dz := (b1.cell (p := ⟨gz, oz + t, none⟩) hgz).trans cz
            have dy := (b1.cell (p := ⟨gy, oy + t, none⟩) hgy).trans cy
            have hgz2 : gz < wb.heap.size := by omega
            have hgy2 : gy < wb.heap.size := by omega
            have HRUb := Lib.hid (HRUw.out.below b1)
            have HBB := Lib.hid (HBW.out.trans (b1.mono hsw))
            clear cz cy b1
            by_cases hPy : Pd < y
            · rw [decide_eq_true hPy] at CH
              go_wp2_with fail
              refine wp_region_lat wb.heap.size (by kernel_rfl) (by kernel_rfl) ?_
              have LC := fun (u : Lat wb.heap.size wb) => u.cell
              repeat (go_big_quiet_step ((go_at_call 21; (with_reducible exact lat_call _ (Nat.le_refl _) (CH.out _ (HRUb.out.below (Lat.below _)))))))
              refine wpQuiet_nil ?_
              intro wc b2
              clear LC
              have HBC := Lib.hid (HBB.out.trans (b2.mono HBB.out.size))
              clear b2 dz dy
              go_wp2
              go_roundw
              case rel => exact ⟨t + 1, by go_num, by omega, HBC.out⟩
              case measure => simp [intOf]; omega
            · rw [decide_eq_false hPy] at CH
              have hPy2 : y ≤ Pd := by omega
              go_wp2_with fail
              refine wp_region_lat wb.heap.size (by kernel_rfl) (by kernel_rfl) ?_
              have LC := fun (u : Lat wb.heap.size wb) => u.cell
              repeat (go_big_quiet_step ((go_at_call 21; (with_reducible exact lat_call _ (Nat.le_refl _) (CH.out _ (HRUb.out.below (Lat.below _)))))))
              refine wpQuiet_nil ?_
              intro wc b2
              clear LC
              have HBC := Lib.hid (HBB.out.trans (b2.mono HBB.out.size))
              clear b2 dz dy
              go_wp2
              go_roundw
              case rel => exact ⟨t + 1, by go_num, by omega, HBC.out⟩
              case measure => simp [intOf]; omega
          · obtain rfl : t = zi.length := by omega
            have HO1w := Lib.hid (own_below HO1.out HBW.out)
            have HBr := Lib.hid (Bw42.out.trans (HBW.out.mono Bw42.out.size))
            go_wp2_with fail
            refine (implAreInsured_any A1 xs.length c1 xs _ rfl (Rd.of_own HO1w.out) (by omega)).mono ?_
            rintro e wp ⟨rfl, bp⟩
            rw [← HQ.out]
            have HO1p := Lib.hid (own_below HO1w.out bp)
            have HBp := Lib.hid (HBr.out.trans (bp.mono HBr.out.size))
            clear bp
            go_wp2_with fail
            refine (specAreInsured_any A1 xs.length c1 xs _ rfl (Rd.of_own HO1p.out) (by omega)).mono ?_
            rintro e wq ⟨rfl, bq⟩
            rw [← HQ.out]
            have HBq := Lib.hid (HBp.out.trans (bq.mono HBp.out.size))
            clear bq
            go_wp2
            go_ret
            exact ⟨by first | rfl | (rw [hqq]; rfl), HBq.out⟩

theorem own : ownKnob Try.prog.godebug = none := by kernel_rfl
theorem laidOut : laidOutB Try.prog = true := by kernel_rfl
set_option maxRecDepth 100000 in
theorem lifted (os : Os) (started : os.Started) (H : Type) (enc : TypeId × Value → H) :
    ReturnsInHanded {} Try.checked os 3 .any (Rows.fnInsuredSpec.pre6 enc Try.prog Try.f3 Rows.fnInsuredRow.domain false) (Rows.fnInsuredSpec.post enc Try.prog Try.f3 false true false false) := by
  refine returnsInHanded_of_change (C := Try.checked) own started (by kernel_rfl) Try.func3
    (ChangeSpec.witness6 (enc := enc) (C := Try.checked) false ⟨#[], #[.slice none 0 0], []⟩ 8 (by kernel_rfl) (by kernel_rfl) (by kernel_rfl) (by kernel_rfl)) ?_
  intro W base args ds gs before hval0 hW hcnd _
  have hval : ∀ (j : Nat) t v, Try.f3.params[j]? = some t → args[j]? = some v → Value.okWide Try.prog W .any base t v := hval0
  have hW' := hW
  obtain ⟨p, q, hA0, hV, rfl, hfz, hnd⟩ := hW
  have hA : DataW.TrodAll enc Try.prog W 0 (fun _ => true) true Try.f3.params.toList args.toList ds p := hA0
  rw [Try.params3] at hA hval
  obtain ⟨v0, vs0, d0, ds0, p0, q0, hargs, rfl, rfl, h0, r0⟩ := trodAll_cons hA
  obtain ⟨rfl, rfl, rfl⟩ := trodAll_nil r0
  obtain rfl : args = #[v0] := by cases args; simp_all
  obtain ⟨rfl, rfl⟩ := trodVars_none hV
  obtain ⟨a0, len0, cap0, rfl⟩ := okWide_slice Try.underlying22 (hval 0 22 v0 rfl rfl)
  have k0 := h0
  have lt0 : ∀ x ∈ p0, x.block < W.heap.size := by obtain ⟨m, hm⟩ := k0; exact DataW.trod_lt m _ _ _ hm
  obtain ⟨zs, hl0, hr0, hm0, hb0⟩ := openU Try.underlying22 Try.underlying5 (by kernel_rfl) h0
  clear hA0 hval0
  refine (walk a0 len0 cap0 zs W hl0 hr0 hm0 hb0).mono fun e W' ⟨he, bel⟩ => ?_
  subst he
  exact ⟨_, rfl, _, _, _, [], _, [], hW', trodAll_mk1 (shut_bool Try.underlying4 _), (trodAll_cons_mk (Below.trod laidOut (by kernel_rfl) (of_decide_eq_true (by kernel_rfl)) k0 bel lt0) trodAll_mk0), rfl, bel.frame _, fun h => by cases h⟩

theorem over : Rows.fnInsuredRow.holds Try.pinned (OpenSpec.ofChange Rows.fnInsuredSpec) :=
  OpenClaim.holds_of_wide 3 Try.f3 rfl rfl rfl rfl rfl rfl rfl ⟨rfl, rfl, rfl, rfl, rfl⟩ rfl rfl rfl rfl rfl (by kernel_rfl) Try.func3 (by kernel_rfl)
    (of_decide_eq_true (by kernel_rfl)) (by unfold Func.isWrapper; first | (rw [if_pos (by decide +kernel)]; kernel_rfl) | (rw [if_neg (by decide +kernel)]; exact ⟨rfl, rfl⟩))
    (fun os started H enc _ => lifted os started H enc)

theorem proved : Rows.FnInsuredSaid := over
#print axioms proved
end Go.Proofs.Ytcibibkainablaa.lwFnInsured
