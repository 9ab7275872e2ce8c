/- The law FnGaps returns true for every input: on the first gap there is no cover, no day is better covered than the told one, and uncovered days of two spans add up; no condition but the card's own: the listed tables of the library hold what their text lays. -/
import Derived.Test.YtiafiehglfmjaaaDoorCurQG
import Derived.Test.YtiafiehglfmjaaaDoorInsR
import Derived.Test.YtiafiehglfmjaaaDoorTInsB
import Derived.Test.YtiafiehglfmjaaaDoorDLaidG
namespace Go.Proofs.YtiafiehglfmjaaaDoor.ltFnGaps
set_option linter.unusedSimpArgs false
open Go.ChangeShapes Go.WideShapes Go.ChangeAt Go.RowKit
set_option linter.unusedVariables false

theorem gc_true {xs : List R5} {item : Int} (h : decide (0 < (gcV xs item).2) = true) : gcB xs item = true := by
  cases hb : gcB xs item with
  | true => rfl
  | false => rw [gcV_no hb] at h; simp at h
theorem unc_wrap (xs : List R5) (item d0 d1 : Int) : IntKind.i64.wrap (uncV xs item d0 d1) = uncV xs item d0 d1 := by
  refine IntWalk.i64_in _ ?_
  unfold uncV
  split
  · rename_i h
    simp only [uncB, Bool.and_eq_true, decide_eq_true_eq] at h
    have h3 := inR_true.1 h.2.2.1
    have h4 := inR_true.1 h.2.2.2.1
    have := uncN_bd xs item d0 (d1 + 1 - d0).toNat
    omega
  · omega

set_option maxRecDepth 20000 in
set_option maxHeartbeats 16000000 in
theorem walk (B : Option Addr) (n c : Nat) (zs : List Int) (w : World) (hn : zs.length = n) (hB : Rd w B (cellsU zs)) (hm : n ≤ maxLen) (hb : ∀ z ∈ zs, 0 ≤ z ∧ z ≤ 255)
    (ht : ∀ w', Below w.heap.size w w' → Lib.TabIs Tryd.prog w' "internal/strconv.uint64pow10" .u64 Lib.pow10Tab) :
    Calls Tryd.prog 3 #[.slice B n c] w (Ret (.bool true) w) := by
  have HT := Lib.hid ht
  clear ht
  have CB := Lib.hid (fun w => rBig_any B n c w hm)
  by_cases hbig : (65536 : Int) < n
  · rw [show decide ((65536 : Int) < n) = true by simp; omega] at CB
    clear hbig hn
    go_enter Tryd.func3, Tryd.ntmps3
    go_wp2_with fail
    refine (CB.out _).mono ?_
    rintro e w1 ⟨rfl, rfl⟩
    go_wp2
    go_ret
    exact ⟨rfl, Below.refl _ _⟩
  rw [show decide ((65536 : Int) < n) = false by simp; omega] at CB
  have HY : Hid (Bytes w B zs) := Lib.hid ⟨hB, hb, by omega⟩
  have HN := Lib.hid hn
  clear hbig hn hB hm hb
  have D1 := Lib.hid (fun w h => drawFirstGap_any B n c zs w HN.out h)
  have D2 := Lib.hid (fun w h => drawUncoveredDays_any B n c zs w HN.out h)
  have D3 := Lib.hid (fun w h => drawCoverOn_any B n c zs w HN.out h)
  have D4 := Lib.hid (fun w h => drawInsuredText_any B n c zs w HN.out h)
  go_enter Tryd.func3, Tryd.ntmps3
  go_wp2_with fail
  refine (CB.out _).mono ?_
  rintro e w0 ⟨rfl, rfl⟩
  have HB0 := Lib.hid (Below.refl w.heap.size w)
  go_wp2_with fail
  refine (D1.out _ (HY.out)).mono ?_
  rintro e w1 ⟨v1, xs, item, rfl, hl, b⟩
  have Bw1 := Lib.hid (HB0.out.trans (b.mono HB0.out.size))
  obtain ⟨A1, c1, rfl, r1, h1, h1m⟩ := hl.form
  have hx := hl.len
  have HR1 := Lib.hid r1
  clear r1 hl b h1 h1m
  obtain ⟨gap, h_gap⟩ : ∃ gap, gap = (gapV xs item).1 := ⟨_, rfl⟩
  have HG := Lib.hid h_gap
  clear h_gap
  obtain ⟨ok, h_ok⟩ : ∃ ok, ok = (gapV xs item).2 := ⟨_, rfl⟩
  have HOK := Lib.hid h_ok
  clear h_ok
  have hgg : (gap != gap) = false := by simp
  go_wp2_with fail
  refine (implFirstGap_any A1 xs.length c1 xs item _ rfl HR1.out (by omega)).mono ?_
  rintro e w2 ⟨rfl, b⟩
  rw [← HG.out, ← HOK.out]
  have Bw2 := Lib.hid (Bw1.out.trans (b.mono Bw1.out.size))
  have HR1' := Lib.hid (HR1.out.below b)
  clear HR1
  have HR1 := HR1'
  clear HR1'
  clear b
  go_wp2_with fail
  refine (specFirstGap_any A1 xs.length c1 xs item _ rfl HR1.out (by omega)).mono ?_
  rintro e w3 ⟨rfl, b⟩
  rw [← HG.out, ← HOK.out]
  have Bw3 := Lib.hid (Bw2.out.trans (b.mono Bw2.out.size))
  have HR1' := Lib.hid (HR1.out.below b)
  clear HR1
  have HR1 := HR1'
  clear HR1'
  clear b
  cases ok with
  | false =>
    obtain ⟨day, h_day⟩ : ∃ day, day = (gcV xs item).1 := ⟨_, rfl⟩
    have HD := Lib.hid h_day
    clear h_day
    obtain ⟨most, h_most⟩ : ∃ most, most = (gcV xs item).2 := ⟨_, rfl⟩
    have HM := Lib.hid h_most
    clear h_most
    obtain ⟨fine, h_fine⟩ : ∃ fine, fine = decide (0 < (gcV xs item).2) := ⟨_, rfl⟩
    have HF := Lib.hid h_fine
    clear h_fine
    have hdd : (day != day) = false := by simp
    have hmm : (most != most) = false := by simp
    go_wp2_with fail
    refine (implGreatestCover_any A1 xs.length c1 xs item _ rfl HR1.out (by omega)).mono ?_
    rintro e w4 ⟨rfl, b⟩
    rw [← HF.out, ← HD.out, ← HM.out]
    have Bw4 := Lib.hid (Bw3.out.trans (b.mono Bw3.out.size))
    have HR1' := Lib.hid (HR1.out.below b)
    clear HR1
    have HR1 := HR1'
    clear HR1'
    clear b
    go_wp2_with fail
    refine (specGreatestCover_any A1 xs.length c1 xs item _ rfl HR1.out (by omega)).mono ?_
    rintro e w5 ⟨rfl, b⟩
    rw [← HF.out, ← HD.out, ← HM.out]
    have Bw5 := Lib.hid (Bw4.out.trans (b.mono Bw4.out.size))
    have HR1' := Lib.hid (HR1.out.below b)
    clear HR1
    have HR1 := HR1'
    clear HR1'
    clear b
    cases fine with
    | false =>
      go_wp2_with fail
      go_loopw [19, 20, 21] (fun i _ _ wr => ∃ t : Nat, i = .int .i64 t ∧ t ≤ xs.length ∧ Below w5.heap.size w5 wr) (fun i _ _ _ => xs.length - (intOf i).toNat)
      case atStart => exact ⟨0, rfl, by omega, Below.refl _ _⟩
      case round =>
        obtain ⟨t, rfl, ht, hbw⟩ := hrel
        have HBW := Lib.hid hbw
        have hsw := hbw.size
        clear hbw
        by_cases htl : t < xs.length
        · have htl' : (t : Int) < (xs.length : Int) := by omega
          have Bwr := Lib.hid (Bw5.out.trans (HBW.out.mono Bw5.out.size))
          have HR1' := Lib.hid (HR1.out.below HBW.out)
          clear HR1
          have HR1 := HR1'
          clear HR1'
          go_wp2_with fail
          refine (D2.out _ (HY.out.below Bwr.out)).mono ?_
          rintro e w6 ⟨v5, ys, y, d0, d1, rfl, hl, b⟩
          have Bw6 := Lib.hid (Bwr.out.trans (b.mono Bwr.out.size))
          have HR1' := Lib.hid (HR1.out.below b)
          clear HR1
          have HR1 := HR1'
          clear HR1'
          obtain ⟨A5, c5, rfl, r5, h5, h5m⟩ := hl.form
          have hy := hl.len
          have HR5 := Lib.hid r5
          clear r5 hl b h5 h5m
          obtain ⟨un, h_un⟩ : ∃ un, un = uncV ys y d0 d1 := ⟨_, rfl⟩
          have HU := Lib.hid h_un
          clear h_un
          obtain ⟨told, h_told⟩ : ∃ told, told = uncB ys y d0 d1 := ⟨_, rfl⟩
          have HTD := Lib.hid h_told
          clear h_told
          have huu : (un != un) = false := by simp
          go_wp2_with fail
          refine (implUncoveredDays_any A5 ys.length c5 ys y d0 d1 _ rfl HR5.out (by omega)).mono ?_
          rintro e w7 ⟨rfl, b⟩
          rw [← HU.out, ← HTD.out]
          have Bw7 := Lib.hid (Bw6.out.trans (b.mono Bw6.out.size))
          have HR1' := Lib.hid (HR1.out.below b)
          clear HR1
          have HR1 := HR1'
          clear HR1'
          have HR5' := Lib.hid (HR5.out.below b)
          clear HR5
          have HR5 := HR5'
          clear HR5'
          clear b
          go_wp2_with fail
          refine (specUncoveredDays_any A5 ys.length c5 ys y d0 d1 _ rfl HR5.out (by omega)).mono ?_
          rintro e w8 ⟨rfl, b⟩
          rw [← HU.out, ← HTD.out]
          have Bw8 := Lib.hid (Bw7.out.trans (b.mono Bw7.out.size))
          have HR1' := Lib.hid (HR1.out.below b)
          clear HR1
          have HR1 := HR1'
          clear HR1'
          have HR5' := Lib.hid (HR5.out.below b)
          clear HR5
          have HR5 := HR5'
          clear HR5'
          clear b
          cases told with
          | false =>
            go_wp2_with fail
            refine (D3.out _ (HY.out.below Bw8.out)).mono ?_
            rintro e w9 ⟨v6, us, u, at_, rfl, hl, b⟩
            have Bw9 := Lib.hid (Bw8.out.trans (b.mono Bw8.out.size))
            have HR1' := Lib.hid (HR1.out.below b)
            clear HR1
            have HR1 := HR1'
            clear HR1'
            obtain ⟨A6, c6, rfl, r6, h6, h6m⟩ := hl.form
            have hu := hl.len
            have HR6 := Lib.hid r6
            clear r6 hl b h6 h6m
            obtain ⟨cu, h_cu⟩ : ∃ cu, cu = covV us u at_ := ⟨_, rfl⟩
            have HCU := Lib.hid h_cu
            clear h_cu
            obtain ⟨kn, h_kn⟩ : ∃ kn, kn = covB us u at_ := ⟨_, rfl⟩
            have HKN := Lib.hid h_kn
            clear h_kn
            go_wp2_with fail
            refine (implCoverOn_any A6 us.length c6 us u at_ _ rfl HR6.out (by omega)).mono ?_
            rintro e w10 ⟨rfl, b⟩
            rw [← HCU.out, ← HKN.out]
            have Bw10 := Lib.hid (Bw9.out.trans (b.mono Bw9.out.size))
            have HR1' := Lib.hid (HR1.out.below b)
            clear HR1
            have HR1 := HR1'
            clear HR1'
            have HR6' := Lib.hid (HR6.out.below b)
            clear HR6
            have HR6 := HR6'
            clear HR6'
            clear b
            go_wp2_with fail
            refine (specCoverOn_any A6 us.length c6 us u at_ _ rfl HR6.out (by omega)).mono ?_
            rintro e w11 ⟨rfl, b⟩
            rw [← HCU.out, ← HKN.out]
            have Bw11 := Lib.hid (Bw10.out.trans (b.mono Bw10.out.size))
            have HR1' := Lib.hid (HR1.out.below b)
            clear HR1
            have HR1 := HR1'
            clear HR1'
            clear b
            go_wp2_with fail
            refine (D4.out _ (HY.out.below Bw11.out)).mono ?_
            rintro e w12 ⟨x, rfl, b⟩
            have Bw12 := Lib.hid (Bw11.out.trans (b.mono Bw11.out.size))
            have HR1' := Lib.hid (HR1.out.below b)
            clear HR1
            have HR1 := HR1'
            clear HR1'
            clear b
            go_wp2_with fail
            obtain ⟨wx, hwx⟩ : ∃ wx, wx = (w12.alloc (.cells #[.int .i64 x.a, .int .i64 x.b, .int .i64 x.c, .int .i64 x.d, .int .i64 x.e] 33)) := ⟨_, rfl⟩
            have KX : Hid (Blk wx w12.heap.size [.int .i64 x.a, .int .i64 x.b, .int .i64 x.c, .int .i64 x.d, .int .i64 x.e]) := Lib.hid (by rw [hwx]; exact Blk.new w12 _ _)
            have bx : Below w12.heap.size w12 wx := by rw [hwx]; exact (Below.refl _ _).alloc (Nat.le_refl _) _
            rw [← hwx]
            clear hwx
            have Bwx := Lib.hid (Bw12.out.trans (bx.mono Bw12.out.size))
            have HR1' := Lib.hid (HR1.out.below bx)
            clear HR1
            have HR1 := HR1'
            clear HR1'
            clear bx
            obtain ⟨sx, h_sx⟩ : ∃ sx, sx = itV x := ⟨_, rfl⟩
            have HSX := Lib.hid h_sx
            clear h_sx
            obtain ⟨gd, h_gd⟩ : ∃ gd, gd = insB x := ⟨_, rfl⟩
            have HGD := Lib.hid h_gd
            clear h_gd
            obtain ⟨cs, h_cs⟩ : ∃ cs, cs = costV xs := ⟨_, rfl⟩
            have HCS := Lib.hid h_cs
            clear h_cs
            obtain ⟨hs, h_hs⟩ : ∃ hs, hs = insL xs := ⟨_, rfl⟩
            have HHS := Lib.hid h_hs
            clear h_hs
            refine (implInsuredText_any x _ (fun w' h => HT.out w' (Bwx.out.trans (h.mono Bwx.out.size)))).mono ?_
            rintro e w13 ⟨rfl, b⟩
            rw [← HSX.out, ← HGD.out]
            have Bw13 := Lib.hid (Bwx.out.trans (b.mono Bwx.out.size))
            have HR1' := Lib.hid (HR1.out.below b)
            clear HR1
            have HR1 := HR1'
            clear HR1'
            have KX' := Lib.hid (KX.out.below b KX.out.lt)
            clear KX
            have KX := KX'
            clear KX'
            clear b
            have y0 := KX.out.cell 0 _ rfl
            have y1 := KX.out.cell 1 _ rfl
            have y2 := KX.out.cell 2 _ rfl
            have y3 := KX.out.cell 3 _ rfl
            have y4 := KX.out.cell 4 _ rfl
            go_wp2_with fail
            clear y0 y1 y2 y3 y4
            refine (specInsuredText_any x _).mono ?_
            rintro e w14 ⟨rfl, b⟩
            rw [← HSX.out, ← HGD.out]
            have Bw14 := Lib.hid (Bw13.out.trans (b.mono Bw13.out.size))
            have HR1' := Lib.hid (HR1.out.below b)
            clear HR1
            have HR1 := HR1'
            clear HR1'
            clear b KX
            go_wp2_with fail
            refine (implCostOfAll_any A1 xs.length c1 xs _ rfl HR1.out (by omega)).mono ?_
            rintro e w15 ⟨rfl, b⟩
            rw [← HCS.out, ← HHS.out]
            have Bw15 := Lib.hid (Bw14.out.trans (b.mono Bw14.out.size))
            have HR1' := Lib.hid (HR1.out.below b)
            clear HR1
            have HR1 := HR1'
            clear HR1'
            clear b
            go_wp2_with fail
            refine (specCostOfAll_any A1 xs.length c1 xs _ rfl HR1.out (by omega)).mono ?_
            rintro e w16 ⟨rfl, b⟩
            rw [← HCS.out, ← HHS.out]
            have Bw16 := Lib.hid (Bw15.out.trans (b.mono Bw15.out.size))
            have HR1' := Lib.hid (HR1.out.below b)
            clear HR1
            have HR1 := HR1'
            clear HR1'
            clear b
            go_wp2
            go_ret
            exact ⟨by first | rfl | simp, Bw16.out⟩
          | true =>
            obtain ⟨m, hm⟩ : ∃ m, m = (d0 + d1) / 2 := ⟨_, rfl⟩
            obtain ⟨f1, f2, f3, f4, f5, f6, f7⟩ := unc_split HTD.out.symm hm
            rw [← HU.out] at f3
            obtain ⟨ua, h_ua⟩ : ∃ ua, ua = uncV ys y d0 m := ⟨_, rfl⟩
            have HUA := Lib.hid h_ua
            clear h_ua
            obtain ⟨ub, h_ub⟩ : ∃ ub, ub = uncV ys y (m + 1) d1 := ⟨_, rfl⟩
            have HUB := Lib.hid h_ub
            clear h_ub
            rw [← HUA.out, ← HUB.out] at f3
            obtain ⟨lt, h_lt⟩ : ∃ lt, lt = decide (m < d1) := ⟨_, rfl⟩
            have HLT := Lib.hid h_lt
            clear h_lt
            rw [← HLT.out] at f2
            have hw1 : IntKind.i64.wrap (d0 + d1) = d0 + d1 := IntWalk.i64_in _ (by omega)
            have hw2 : IntKind.i64.wrap (m + 1) = m + 1 := IntWalk.i64_in _ (by omega)
            have hw4 : IntKind.i64.wrap m = m := IntWalk.i64_in _ (by omega)
            have hw5 : wrap64 (d0 + d1) = d0 + d1 := IntWalk.wrap64_in _ (by omega)
            have hw6 : wrap64 (m + 1) = m + 1 := IntWalk.wrap64_in _ (by omega)
            have hw3 : IntKind.i64.wrap (ua + ub) = un := by rw [f3]; rw [HU.out]; exact unc_wrap ys y d0 d1
            have hmt : (d0 + d1).tdiv 2 = m := by rw [hm]; rw [Int.tdiv_eq_ediv_of_nonneg (by omega)]
            have F1 := Lib.hid f1
            have F2 := Lib.hid f2
            have HM2 := Lib.hid hm
            clear f1 f2 f3 hm
            have hll : (lt != lt) = false := by simp
            go_wp2_with fail
            refine (implUncoveredDays_any A5 ys.length c5 ys y d0 m _ rfl HR5.out (by omega)).mono ?_
            rintro e w17 ⟨rfl, b⟩
            rw [← HUA.out, F1.out]
            have Bw17 := Lib.hid (Bw8.out.trans (b.mono Bw8.out.size))
            have HR1' := Lib.hid (HR1.out.below b)
            clear HR1
            have HR1 := HR1'
            clear HR1'
            have HR5' := Lib.hid (HR5.out.below b)
            clear HR5
            have HR5 := HR5'
            clear HR5'
            clear b
            go_wp2_with fail
            refine (implUncoveredDays_any A5 ys.length c5 ys y (m + 1) d1 _ rfl HR5.out (by omega)).mono ?_
            rintro e w18 ⟨rfl, b⟩
            rw [← HUB.out, F2.out]
            have Bw18 := Lib.hid (Bw17.out.trans (b.mono Bw17.out.size))
            have HR1' := Lib.hid (HR1.out.below b)
            clear HR1
            have HR1 := HR1'
            clear HR1'
            have HR5' := Lib.hid (HR5.out.below b)
            clear HR5
            have HR5 := HR5'
            clear HR5'
            clear b
            have hlt : decide (m < d1) = lt := HLT.out.symm
            go_wp2_with fail
            refine (D3.out _ (HY.out.below Bw18.out)).mono ?_
            rintro e w19 ⟨v6, us, u, at_, rfl, hl, b⟩
            have Bw19 := Lib.hid (Bw18.out.trans (b.mono Bw18.out.size))
            have HR1' := Lib.hid (HR1.out.below b)
            clear HR1
            have HR1 := HR1'
            clear HR1'
            obtain ⟨A6, c6, rfl, r6, h6, h6m⟩ := hl.form
            have hu := hl.len
            have HR6 := Lib.hid r6
            clear r6 hl b h6 h6m
            obtain ⟨cu, h_cu⟩ : ∃ cu, cu = covV us u at_ := ⟨_, rfl⟩
            have HCU := Lib.hid h_cu
            clear h_cu
            obtain ⟨kn, h_kn⟩ : ∃ kn, kn = covB us u at_ := ⟨_, rfl⟩
            have HKN := Lib.hid h_kn
            clear h_kn
            go_wp2_with fail
            refine (implCoverOn_any A6 us.length c6 us u at_ _ rfl HR6.out (by omega)).mono ?_
            rintro e w20 ⟨rfl, b⟩
            rw [← HCU.out, ← HKN.out]
            have Bw20 := Lib.hid (Bw19.out.trans (b.mono Bw19.out.size))
            have HR1' := Lib.hid (HR1.out.below b)
            clear HR1
            have HR1 := HR1'
            clear HR1'
            have HR6' := Lib.hid (HR6.out.below b)
            clear HR6
            have HR6 := HR6'
            clear HR6'
            clear b
            go_wp2_with fail
            refine (specCoverOn_any A6 us.length c6 us u at_ _ rfl HR6.out (by omega)).mono ?_
            rintro e w21 ⟨rfl, b⟩
            rw [← HCU.out, ← HKN.out]
            have Bw21 := Lib.hid (Bw20.out.trans (b.mono Bw20.out.size))
            have HR1' := Lib.hid (HR1.out.below b)
            clear HR1
            have HR1 := HR1'
            clear HR1'
            clear b
            go_wp2_with fail
            refine (D4.out _ (HY.out.below Bw21.out)).mono ?_
            rintro e w22 ⟨x, rfl, b⟩
            have Bw22 := Lib.hid (Bw21.out.trans (b.mono Bw21.out.size))
            have HR1' := Lib.hid (HR1.out.below b)
            clear HR1
            have HR1 := HR1'
            clear HR1'
            clear b
            go_wp2_with fail
            obtain ⟨wx, hwx⟩ : ∃ wx, wx = (w22.alloc (.cells #[.int .i64 x.a, .int .i64 x.b, .int .i64 x.c, .int .i64 x.d, .int .i64 x.e] 33)) := ⟨_, rfl⟩
            have KX : Hid (Blk wx w22.heap.size [.int .i64 x.a, .int .i64 x.b, .int .i64 x.c, .int .i64 x.d, .int .i64 x.e]) := Lib.hid (by rw [hwx]; exact Blk.new w22 _ _)
            have bx : Below w22.heap.size w22 wx := by rw [hwx]; exact (Below.refl _ _).alloc (Nat.le_refl _) _
            rw [← hwx]
            clear hwx
            have Bwx := Lib.hid (Bw22.out.trans (bx.mono Bw22.out.size))
            have HR1' := Lib.hid (HR1.out.below bx)
            clear HR1
            have HR1 := HR1'
            clear HR1'
            clear bx
            obtain ⟨sx, h_sx⟩ : ∃ sx, sx = itV x := ⟨_, rfl⟩
            have HSX := Lib.hid h_sx
            clear h_sx
            obtain ⟨gd, h_gd⟩ : ∃ gd, gd = insB x := ⟨_, rfl⟩
            have HGD := Lib.hid h_gd
            clear h_gd
            obtain ⟨cs, h_cs⟩ : ∃ cs, cs = costV xs := ⟨_, rfl⟩
            have HCS := Lib.hid h_cs
            clear h_cs
            obtain ⟨hs, h_hs⟩ : ∃ hs, hs = insL xs := ⟨_, rfl⟩
            have HHS := Lib.hid h_hs
            clear h_hs
            refine (implInsuredText_any x _ (fun w' h => HT.out w' (Bwx.out.trans (h.mono Bwx.out.size)))).mono ?_
            rintro e w23 ⟨rfl, b⟩
            rw [← HSX.out, ← HGD.out]
            have Bw23 := Lib.hid (Bwx.out.trans (b.mono Bwx.out.size))
            have HR1' := Lib.hid (HR1.out.below b)
            clear HR1
            have HR1 := HR1'
            clear HR1'
            have KX' := Lib.hid (KX.out.below b KX.out.lt)
            clear KX
            have KX := KX'
            clear KX'
            clear b
            have y0 := KX.out.cell 0 _ rfl
            have y1 := KX.out.cell 1 _ rfl
            have y2 := KX.out.cell 2 _ rfl
            have y3 := KX.out.cell 3 _ rfl
            have y4 := KX.out.cell 4 _ rfl
            go_wp2_with fail
            clear y0 y1 y2 y3 y4
            refine (specInsuredText_any x _).mono ?_
            rintro e w24 ⟨rfl, b⟩
            rw [← HSX.out, ← HGD.out]
            have Bw24 := Lib.hid (Bw23.out.trans (b.mono Bw23.out.size))
            have HR1' := Lib.hid (HR1.out.below b)
            clear HR1
            have HR1 := HR1'
            clear HR1'
            clear b KX
            go_wp2_with fail
            refine (implCostOfAll_any A1 xs.length c1 xs _ rfl HR1.out (by omega)).mono ?_
            rintro e w25 ⟨rfl, b⟩
            rw [← HCS.out, ← HHS.out]
            have Bw25 := Lib.hid (Bw24.out.trans (b.mono Bw24.out.size))
            have HR1' := Lib.hid (HR1.out.below b)
            clear HR1
            have HR1 := HR1'
            clear HR1'
            clear b
            go_wp2_with fail
            refine (specCostOfAll_any A1 xs.length c1 xs _ rfl HR1.out (by omega)).mono ?_
            rintro e w26 ⟨rfl, b⟩
            rw [← HCS.out, ← HHS.out]
            have Bw26 := Lib.hid (Bw25.out.trans (b.mono Bw25.out.size))
            have HR1' := Lib.hid (HR1.out.below b)
            clear HR1
            have HR1 := HR1'
            clear HR1'
            clear b
            go_wp2
            go_ret
            exact ⟨by first | rfl | simp, Bw26.out⟩
        · obtain rfl : t = xs.length := by omega
          have Bwr := Lib.hid (Bw5.out.trans (HBW.out.mono Bw5.out.size))
          have HR1' := Lib.hid (HR1.out.below HBW.out)
          clear HR1
          have HR1 := HR1'
          clear HR1'
          go_wp2_with fail
          refine (D2.out _ (HY.out.below Bwr.out)).mono ?_
          rintro e w27 ⟨v5, ys, y, d0, d1, rfl, hl, b⟩
          have Bw27 := Lib.hid (Bwr.out.trans (b.mono Bwr.out.size))
          have HR1' := Lib.hid (HR1.out.below b)
          clear HR1
          have HR1 := HR1'
          clear HR1'
          obtain ⟨A5, c5, rfl, r5, h5, h5m⟩ := hl.form
          have hy := hl.len
          have HR5 := Lib.hid r5
          clear r5 hl b h5 h5m
          obtain ⟨un, h_un⟩ : ∃ un, un = uncV ys y d0 d1 := ⟨_, rfl⟩
          have HU := Lib.hid h_un
          clear h_un
          obtain ⟨told, h_told⟩ : ∃ told, told = uncB ys y d0 d1 := ⟨_, rfl⟩
          have HTD := Lib.hid h_told
          clear h_told
          have huu : (un != un) = false := by simp
          go_wp2_with fail
          refine (implUncoveredDays_any A5 ys.length c5 ys y d0 d1 _ rfl HR5.out (by omega)).mono ?_
          rintro e w28 ⟨rfl, b⟩
          rw [← HU.out, ← HTD.out]
          have Bw28 := Lib.hid (Bw27.out.trans (b.mono Bw27.out.size))
          have HR1' := Lib.hid (HR1.out.below b)
          clear HR1
          have HR1 := HR1'
          clear HR1'
          have HR5' := Lib.hid (HR5.out.below b)
          clear HR5
          have HR5 := HR5'
          clear HR5'
          clear b
          go_wp2_with fail
          refine (specUncoveredDays_any A5 ys.length c5 ys y d0 d1 _ rfl HR5.out (by omega)).mono ?_
          rintro e w29 ⟨rfl, b⟩
          rw [← HU.out, ← HTD.out]
          have Bw29 := Lib.hid (Bw28.out.trans (b.mono Bw28.out.size))
          have HR1' := Lib.hid (HR1.out.below b)
          clear HR1
          have HR1 := HR1'
          clear HR1'
          have HR5' := Lib.hid (HR5.out.below b)
          clear HR5
          have HR5 := HR5'
          clear HR5'
          clear b
          cases told with
          | false =>
            go_wp2_with fail
            refine (D3.out _ (HY.out.below Bw29.out)).mono ?_
            rintro e w30 ⟨v6, us, u, at_, rfl, hl, b⟩
            have Bw30 := Lib.hid (Bw29.out.trans (b.mono Bw29.out.size))
            have HR1' := Lib.hid (HR1.out.below b)
            clear HR1
            have HR1 := HR1'
            clear HR1'
            obtain ⟨A6, c6, rfl, r6, h6, h6m⟩ := hl.form
            have hu := hl.len
            have HR6 := Lib.hid r6
            clear r6 hl b h6 h6m
            obtain ⟨cu, h_cu⟩ : ∃ cu, cu = covV us u at_ := ⟨_, rfl⟩
            have HCU := Lib.hid h_cu
            clear h_cu
            obtain ⟨kn, h_kn⟩ : ∃ kn, kn = covB us u at_ := ⟨_, rfl⟩
            have HKN := Lib.hid h_kn
            clear h_kn
            go_wp2_with fail
            refine (implCoverOn_any A6 us.length c6 us u at_ _ rfl HR6.out (by omega)).mono ?_
            rintro e w31 ⟨rfl, b⟩
            rw [← HCU.out, ← HKN.out]
            have Bw31 := Lib.hid (Bw30.out.trans (b.mono Bw30.out.size))
            have HR1' := Lib.hid (HR1.out.below b)
            clear HR1
            have HR1 := HR1'
            clear HR1'
            have HR6' := Lib.hid (HR6.out.below b)
            clear HR6
            have HR6 := HR6'
            clear HR6'
            clear b
            go_wp2_with fail
            refine (specCoverOn_any A6 us.length c6 us u at_ _ rfl HR6.out (by omega)).mono ?_
            rintro e w32 ⟨rfl, b⟩
            rw [← HCU.out, ← HKN.out]
            have Bw32 := Lib.hid (Bw31.out.trans (b.mono Bw31.out.size))
            have HR1' := Lib.hid (HR1.out.below b)
            clear HR1
            have HR1 := HR1'
            clear HR1'
            clear b
            go_wp2_with fail
            refine (D4.out _ (HY.out.below Bw32.out)).mono ?_
            rintro e w33 ⟨x, rfl, b⟩
            have Bw33 := Lib.hid (Bw32.out.trans (b.mono Bw32.out.size))
            have HR1' := Lib.hid (HR1.out.below b)
            clear HR1
            have HR1 := HR1'
            clear HR1'
            clear b
            go_wp2_with fail
            obtain ⟨wx, hwx⟩ : ∃ wx, wx = (w33.alloc (.cells #[.int .i64 x.a, .int .i64 x.b, .int .i64 x.c, .int .i64 x.d, .int .i64 x.e] 33)) := ⟨_, rfl⟩
            have KX : Hid (Blk wx w33.heap.size [.int .i64 x.a, .int .i64 x.b, .int .i64 x.c, .int .i64 x.d, .int .i64 x.e]) := Lib.hid (by rw [hwx]; exact Blk.new w33 _ _)
            have bx : Below w33.heap.size w33 wx := by rw [hwx]; exact (Below.refl _ _).alloc (Nat.le_refl _) _
            rw [← hwx]
            clear hwx
            have Bwx := Lib.hid (Bw33.out.trans (bx.mono Bw33.out.size))
            have HR1' := Lib.hid (HR1.out.below bx)
            clear HR1
            have HR1 := HR1'
            clear HR1'
            clear bx
            obtain ⟨sx, h_sx⟩ : ∃ sx, sx = itV x := ⟨_, rfl⟩
            have HSX := Lib.hid h_sx
            clear h_sx
            obtain ⟨gd, h_gd⟩ : ∃ gd, gd = insB x := ⟨_, rfl⟩
            have HGD := Lib.hid h_gd
            clear h_gd
            obtain ⟨cs, h_cs⟩ : ∃ cs, cs = costV xs := ⟨_, rfl⟩
            have HCS := Lib.hid h_cs
            clear h_cs
            obtain ⟨hs, h_hs⟩ : ∃ hs, hs = insL xs := ⟨_, rfl⟩
            have HHS := Lib.hid h_hs
            clear h_hs
            refine (implInsuredText_any x _ (fun w' h => HT.out w' (Bwx.out.trans (h.mono Bwx.out.size)))).mono ?_
            rintro e w34 ⟨rfl, b⟩
            rw [← HSX.out, ← HGD.out]
            have Bw34 := Lib.hid (Bwx.out.trans (b.mono Bwx.out.size))
            have HR1' := Lib.hid (HR1.out.below b)
            clear HR1
            have HR1 := HR1'
            clear HR1'
            have KX' := Lib.hid (KX.out.below b KX.out.lt)
            clear KX
            have KX := KX'
            clear KX'
            clear b
            have y0 := KX.out.cell 0 _ rfl
            have y1 := KX.out.cell 1 _ rfl
            have y2 := KX.out.cell 2 _ rfl
            have y3 := KX.out.cell 3 _ rfl
            have y4 := KX.out.cell 4 _ rfl
            go_wp2_with fail
            clear y0 y1 y2 y3 y4
            refine (specInsuredText_any x _).mono ?_
            rintro e w35 ⟨rfl, b⟩
            rw [← HSX.out, ← HGD.out]
            have Bw35 := Lib.hid (Bw34.out.trans (b.mono Bw34.out.size))
            have HR1' := Lib.hid (HR1.out.below b)
            clear HR1
            have HR1 := HR1'
            clear HR1'
            clear b KX
            go_wp2_with fail
            refine (implCostOfAll_any A1 xs.length c1 xs _ rfl HR1.out (by omega)).mono ?_
            rintro e w36 ⟨rfl, b⟩
            rw [← HCS.out, ← HHS.out]
            have Bw36 := Lib.hid (Bw35.out.trans (b.mono Bw35.out.size))
            have HR1' := Lib.hid (HR1.out.below b)
            clear HR1
            have HR1 := HR1'
            clear HR1'
            clear b
            go_wp2_with fail
            refine (specCostOfAll_any A1 xs.length c1 xs _ rfl HR1.out (by omega)).mono ?_
            rintro e w37 ⟨rfl, b⟩
            rw [← HCS.out, ← HHS.out]
            have Bw37 := Lib.hid (Bw36.out.trans (b.mono Bw36.out.size))
            have HR1' := Lib.hid (HR1.out.below b)
            clear HR1
            have HR1 := HR1'
            clear HR1'
            clear b
            go_wp2
            go_ret
            exact ⟨by first | rfl | simp, Bw37.out⟩
          | true =>
            obtain ⟨m, hm⟩ : ∃ m, m = (d0 + d1) / 2 := ⟨_, rfl⟩
            obtain ⟨f1, f2, f3, f4, f5, f6, f7⟩ := unc_split HTD.out.symm hm
            rw [← HU.out] at f3
            obtain ⟨ua, h_ua⟩ : ∃ ua, ua = uncV ys y d0 m := ⟨_, rfl⟩
            have HUA := Lib.hid h_ua
            clear h_ua
            obtain ⟨ub, h_ub⟩ : ∃ ub, ub = uncV ys y (m + 1) d1 := ⟨_, rfl⟩
            have HUB := Lib.hid h_ub
            clear h_ub
            rw [← HUA.out, ← HUB.out] at f3
            obtain ⟨lt, h_lt⟩ : ∃ lt, lt = decide (m < d1) := ⟨_, rfl⟩
            have HLT := Lib.hid h_lt
            clear h_lt
            rw [← HLT.out] at f2
            have hw1 : IntKind.i64.wrap (d0 + d1) = d0 + d1 := IntWalk.i64_in _ (by omega)
            have hw2 : IntKind.i64.wrap (m + 1) = m + 1 := IntWalk.i64_in _ (by omega)
            have hw4 : IntKind.i64.wrap m = m := IntWalk.i64_in _ (by omega)
            have hw5 : wrap64 (d0 + d1) = d0 + d1 := IntWalk.wrap64_in _ (by omega)
            have hw6 : wrap64 (m + 1) = m + 1 := IntWalk.wrap64_in _ (by omega)
            have hw3 : IntKind.i64.wrap (ua + ub) = un := by rw [f3]; rw [HU.out]; exact unc_wrap ys y d0 d1
            have hmt : (d0 + d1).tdiv 2 = m := by rw [hm]; rw [Int.tdiv_eq_ediv_of_nonneg (by omega)]
            have F1 := Lib.hid f1
            have F2 := Lib.hid f2
            have HM2 := Lib.hid hm
            clear f1 f2 f3 hm
            have hll : (lt != lt) = false := by simp
            go_wp2_with fail
            refine (implUncoveredDays_any A5 ys.length c5 ys y d0 m _ rfl HR5.out (by omega)).mono ?_
            rintro e w38 ⟨rfl, b⟩
            rw [← HUA.out, F1.out]
            have Bw38 := Lib.hid (Bw29.out.trans (b.mono Bw29.out.size))
            have HR1' := Lib.hid (HR1.out.below b)
            clear HR1
            have HR1 := HR1'
            clear HR1'
            have HR5' := Lib.hid (HR5.out.below b)
            clear HR5
            have HR5 := HR5'
            clear HR5'
            clear b
            go_wp2_with fail
            refine (implUncoveredDays_any A5 ys.length c5 ys y (m + 1) d1 _ rfl HR5.out (by omega)).mono ?_
            rintro e w39 ⟨rfl, b⟩
            rw [← HUB.out, F2.out]
            have Bw39 := Lib.hid (Bw38.out.trans (b.mono Bw38.out.size))
            have HR1' := Lib.hid (HR1.out.below b)
            clear HR1
            have HR1 := HR1'
            clear HR1'
            have HR5' := Lib.hid (HR5.out.below b)
            clear HR5
            have HR5 := HR5'
            clear HR5'
            clear b
            have hlt : decide (m < d1) = lt := HLT.out.symm
            go_wp2_with fail
            refine (D3.out _ (HY.out.below Bw39.out)).mono ?_
            rintro e w40 ⟨v6, us, u, at_, rfl, hl, b⟩
            have Bw40 := Lib.hid (Bw39.out.trans (b.mono Bw39.out.size))
            have HR1' := Lib.hid (HR1.out.below b)
            clear HR1
            have HR1 := HR1'
            clear HR1'
            obtain ⟨A6, c6, rfl, r6, h6, h6m⟩ := hl.form
            have hu := hl.len
            have HR6 := Lib.hid r6
            clear r6 hl b h6 h6m
            obtain ⟨cu, h_cu⟩ : ∃ cu, cu = covV us u at_ := ⟨_, rfl⟩
            have HCU := Lib.hid h_cu
            clear h_cu
            obtain ⟨kn, h_kn⟩ : ∃ kn, kn = covB us u at_ := ⟨_, rfl⟩
            have HKN := Lib.hid h_kn
            clear h_kn
            go_wp2_with fail
            refine (implCoverOn_any A6 us.length c6 us u at_ _ rfl HR6.out (by omega)).mono ?_
            rintro e w41 ⟨rfl, b⟩
            rw [← HCU.out, ← HKN.out]
            have Bw41 := Lib.hid (Bw40.out.trans (b.mono Bw40.out.size))
            have HR1' := Lib.hid (HR1.out.below b)
            clear HR1
            have HR1 := HR1'
            clear HR1'
            have HR6' := Lib.hid (HR6.out.below b)
            clear HR6
            have HR6 := HR6'
            clear HR6'
            clear b
            go_wp2_with fail
            refine (specCoverOn_any A6 us.length c6 us u at_ _ rfl HR6.out (by omega)).mono ?_
            rintro e w42 ⟨rfl, b⟩
            rw [← HCU.out, ← HKN.out]
            have Bw42 := Lib.hid (Bw41.out.trans (b.mono Bw41.out.size))
            have HR1' := Lib.hid (HR1.out.below b)
            clear HR1
            have HR1 := HR1'
            clear HR1'
            clear b
            go_wp2_with fail
            refine (D4.out _ (HY.out.below Bw42.out)).mono ?_
            rintro e w43 ⟨x, rfl, b⟩
            have Bw43 := Lib.hid (Bw42.out.trans (b.mono Bw42.out.size))
            have HR1' := Lib.hid (HR1.out.below b)
            clear HR1
            have HR1 := HR1'
            clear HR1'
            clear b
            go_wp2_with fail
            obtain ⟨wx, hwx⟩ : ∃ wx, wx = (w43.alloc (.cells #[.int .i64 x.a, .int .i64 x.b, .int .i64 x.c, .int .i64 x.d, .int .i64 x.e] 33)) := ⟨_, rfl⟩
            have KX : Hid (Blk wx w43.heap.size [.int .i64 x.a, .int .i64 x.b, .int .i64 x.c, .int .i64 x.d, .int .i64 x.e]) := Lib.hid (by rw [hwx]; exact Blk.new w43 _ _)
            have bx : Below w43.heap.size w43 wx := by rw [hwx]; exact (Below.refl _ _).alloc (Nat.le_refl _) _
            rw [← hwx]
            clear hwx
            have Bwx := Lib.hid (Bw43.out.trans (bx.mono Bw43.out.size))
            have HR1' := Lib.hid (HR1.out.below bx)
            clear HR1
            have HR1 := HR1'
            clear HR1'
            clear bx
            obtain ⟨sx, h_sx⟩ : ∃ sx, sx = itV x := ⟨_, rfl⟩
            have HSX := Lib.hid h_sx
            clear h_sx
            obtain ⟨gd, h_gd⟩ : ∃ gd, gd = insB x := ⟨_, rfl⟩
            have HGD := Lib.hid h_gd
            clear h_gd
            obtain ⟨cs, h_cs⟩ : ∃ cs, cs = costV xs := ⟨_, rfl⟩
            have HCS := Lib.hid h_cs
            clear h_cs
            obtain ⟨hs, h_hs⟩ : ∃ hs, hs = insL xs := ⟨_, rfl⟩
            have HHS := Lib.hid h_hs
            clear h_hs
            refine (implInsuredText_any x _ (fun w' h => HT.out w' (Bwx.out.trans (h.mono Bwx.out.size)))).mono ?_
            rintro e w44 ⟨rfl, b⟩
            rw [← HSX.out, ← HGD.out]
            have Bw44 := Lib.hid (Bwx.out.trans (b.mono Bwx.out.size))
            have HR1' := Lib.hid (HR1.out.below b)
            clear HR1
            have HR1 := HR1'
            clear HR1'
            have KX' := Lib.hid (KX.out.below b KX.out.lt)
            clear KX
            have KX := KX'
            clear KX'
            clear b
            have y0 := KX.out.cell 0 _ rfl
            have y1 := KX.out.cell 1 _ rfl
            have y2 := KX.out.cell 2 _ rfl
            have y3 := KX.out.cell 3 _ rfl
            have y4 := KX.out.cell 4 _ rfl
            go_wp2_with fail
            clear y0 y1 y2 y3 y4
            refine (specInsuredText_any x _).mono ?_
            rintro e w45 ⟨rfl, b⟩
            rw [← HSX.out, ← HGD.out]
            have Bw45 := Lib.hid (Bw44.out.trans (b.mono Bw44.out.size))
            have HR1' := Lib.hid (HR1.out.below b)
            clear HR1
            have HR1 := HR1'
            clear HR1'
            clear b KX
            go_wp2_with fail
            refine (implCostOfAll_any A1 xs.length c1 xs _ rfl HR1.out (by omega)).mono ?_
            rintro e w46 ⟨rfl, b⟩
            rw [← HCS.out, ← HHS.out]
            have Bw46 := Lib.hid (Bw45.out.trans (b.mono Bw45.out.size))
            have HR1' := Lib.hid (HR1.out.below b)
            clear HR1
            have HR1 := HR1'
            clear HR1'
            clear b
            go_wp2_with fail
            refine (specCostOfAll_any A1 xs.length c1 xs _ rfl HR1.out (by omega)).mono ?_
            rintro e w47 ⟨rfl, b⟩
            rw [← HCS.out, ← HHS.out]
            have Bw47 := Lib.hid (Bw46.out.trans (b.mono Bw46.out.size))
            have HR1' := Lib.hid (HR1.out.below b)
            clear HR1
            have HR1 := HR1'
            clear HR1'
            clear b
            go_wp2
            go_ret
            exact ⟨by first | rfl | simp, Bw47.out⟩
    | true =>
      go_wp2_with fail
      go_loopw [19, 20, 21] (fun i _ _ wr => ∃ t : Nat, i = .int .i64 t ∧ t ≤ xs.length ∧ Below w5.heap.size w5 wr) (fun i _ _ _ => xs.length - (intOf i).toNat)
      case atStart => exact ⟨0, rfl, by omega, Below.refl _ _⟩
      case round =>
        obtain ⟨t, rfl, ht, hbw⟩ := hrel
        have HBW := Lib.hid hbw
        have hsw := hbw.size
        clear hbw
        by_cases htl : t < xs.length
        · have htl' : (t : Int) < (xs.length : Int) := by omega
          obtain ⟨z, ez⟩ : ∃ z, xs[t]? = some z := ⟨_, List.getElem?_eq_getElem htl⟩
          have hzm : z ∈ xs := List.mem_of_getElem? ez
          obtain ⟨g0, -, -, -, g3⟩ := gc_facts (gc_true HF.out.symm)
          have hzb := insB_bd (insL_mem g0 hzm)
          obtain ⟨g4, g5⟩ := g3 z.c (by omega)
          rw [← HM.out] at g5
          have HRw := Lib.hid (HR1.out.below HBW.out)
          obtain ⟨cv, hcv⟩ : ∃ cv, cv = covV xs item z.c := ⟨_, rfl⟩
          rw [← hcv] at g5
          have HCV := Lib.hid hcv
          have G4 := Lib.hid g4
          have g6 : decide (most < cv) = false := by simp; omega
          have ht0 : (0 : Int) ≤ (t : Int) := by omega
          obtain ⟨gz, oz, eAz, hgz, cz, cz1, cz2, cz3, cz4⟩ := HRw.out.at5 ez
          subst eAz
          clear g0 g3 g4 hcv hzm hzb ez
          go_wp2_with fail
          refine (implCoverOn_any _ xs.length c1 xs item z.c _ rfl HRw.out (by omega)).mono ?_
          rintro e wb ⟨rfl, b⟩
          rw [← HCV.out, G4.out]
          have HBC := Lib.hid (HBW.out.trans (b.mono HBW.out.size))
          clear b cz cz1 cz2 cz3 cz4
          go_wp2
          go_roundw
          case rel => exact ⟨t + 1, by go_num, by omega, HBC.out⟩
          case measure => simp [intOf]; omega
        · obtain rfl : t = xs.length := by omega
          have Bwr := Lib.hid (Bw5.out.trans (HBW.out.mono Bw5.out.size))
          have HR1' := Lib.hid (HR1.out.below HBW.out)
          clear HR1
          have HR1 := HR1'
          clear HR1'
          obtain ⟨-, -, g1, g2, -⟩ := gc_facts (gc_true HF.out.symm)
          rw [← HD.out, ← HM.out] at g2
          rw [← HD.out] at g1
          have G1 := Lib.hid g1
          have G2 := Lib.hid g2
          clear g1 g2
          go_wp2_with fail
          refine (implCoverOn_any A1 xs.length c1 xs item day _ rfl HR1.out (by omega)).mono ?_
          rintro e w48 ⟨rfl, b⟩
          rw [G2.out, G1.out]
          have Bw48 := Lib.hid (Bwr.out.trans (b.mono Bwr.out.size))
          have HR1' := Lib.hid (HR1.out.below b)
          clear HR1
          have HR1 := HR1'
          clear HR1'
          clear b
          go_wp2_with fail
          refine (D2.out _ (HY.out.below Bw48.out)).mono ?_
          rintro e w49 ⟨v5, ys, y, d0, d1, rfl, hl, b⟩
          have Bw49 := Lib.hid (Bw48.out.trans (b.mono Bw48.out.size))
          have HR1' := Lib.hid (HR1.out.below b)
          clear HR1
          have HR1 := HR1'
          clear HR1'
          obtain ⟨A5, c5, rfl, r5, h5, h5m⟩ := hl.form
          have hy := hl.len
          have HR5 := Lib.hid r5
          clear r5 hl b h5 h5m
          obtain ⟨un, h_un⟩ : ∃ un, un = uncV ys y d0 d1 := ⟨_, rfl⟩
          have HU := Lib.hid h_un
          clear h_un
          obtain ⟨told, h_told⟩ : ∃ told, told = uncB ys y d0 d1 := ⟨_, rfl⟩
          have HTD := Lib.hid h_told
          clear h_told
          have huu : (un != un) = false := by simp
          go_wp2_with fail
          refine (implUncoveredDays_any A5 ys.length c5 ys y d0 d1 _ rfl HR5.out (by omega)).mono ?_
          rintro e w50 ⟨rfl, b⟩
          rw [← HU.out, ← HTD.out]
          have Bw50 := Lib.hid (Bw49.out.trans (b.mono Bw49.out.size))
          have HR1' := Lib.hid (HR1.out.below b)
          clear HR1
          have HR1 := HR1'
          clear HR1'
          have HR5' := Lib.hid (HR5.out.below b)
          clear HR5
          have HR5 := HR5'
          clear HR5'
          clear b
          go_wp2_with fail
          refine (specUncoveredDays_any A5 ys.length c5 ys y d0 d1 _ rfl HR5.out (by omega)).mono ?_
          rintro e w51 ⟨rfl, b⟩
          rw [← HU.out, ← HTD.out]
          have Bw51 := Lib.hid (Bw50.out.trans (b.mono Bw50.out.size))
          have HR1' := Lib.hid (HR1.out.below b)
          clear HR1
          have HR1 := HR1'
          clear HR1'
          have HR5' := Lib.hid (HR5.out.below b)
          clear HR5
          have HR5 := HR5'
          clear HR5'
          clear b
          cases told with
          | false =>
            go_wp2_with fail
            refine (D3.out _ (HY.out.below Bw51.out)).mono ?_
            rintro e w52 ⟨v6, us, u, at_, rfl, hl, b⟩
            have Bw52 := Lib.hid (Bw51.out.trans (b.mono Bw51.out.size))
            have HR1' := Lib.hid (HR1.out.below b)
            clear HR1
            have HR1 := HR1'
            clear HR1'
            obtain ⟨A6, c6, rfl, r6, h6, h6m⟩ := hl.form
            have hu := hl.len
            have HR6 := Lib.hid r6
            clear r6 hl b h6 h6m
            obtain ⟨cu, h_cu⟩ : ∃ cu, cu = covV us u at_ := ⟨_, rfl⟩
            have HCU := Lib.hid h_cu
            clear h_cu
            obtain ⟨kn, h_kn⟩ : ∃ kn, kn = covB us u at_ := ⟨_, rfl⟩
            have HKN := Lib.hid h_kn
            clear h_kn
            go_wp2_with fail
            refine (implCoverOn_any A6 us.length c6 us u at_ _ rfl HR6.out (by omega)).mono ?_
            rintro e w53 ⟨rfl, b⟩
            rw [← HCU.out, ← HKN.out]
            have Bw53 := Lib.hid (Bw52.out.trans (b.mono Bw52.out.size))
            have HR1' := Lib.hid (HR1.out.below b)
            clear HR1
            have HR1 := HR1'
            clear HR1'
            have HR6' := Lib.hid (HR6.out.below b)
            clear HR6
            have HR6 := HR6'
            clear HR6'
            clear b
            go_wp2_with fail
            refine (specCoverOn_any A6 us.length c6 us u at_ _ rfl HR6.out (by omega)).mono ?_
            rintro e w54 ⟨rfl, b⟩
            rw [← HCU.out, ← HKN.out]
            have Bw54 := Lib.hid (Bw53.out.trans (b.mono Bw53.out.size))
            have HR1' := Lib.hid (HR1.out.below b)
            clear HR1
            have HR1 := HR1'
            clear HR1'
            clear b
            go_wp2_with fail
            refine (D4.out _ (HY.out.below Bw54.out)).mono ?_
            rintro e w55 ⟨x, rfl, b⟩
            have Bw55 := Lib.hid (Bw54.out.trans (b.mono Bw54.out.size))
            have HR1' := Lib.hid (HR1.out.below b)
            clear HR1
            have HR1 := HR1'
            clear HR1'
            clear b
            go_wp2_with fail
            obtain ⟨wx, hwx⟩ : ∃ wx, wx = (w55.alloc (.cells #[.int .i64 x.a, .int .i64 x.b, .int .i64 x.c, .int .i64 x.d, .int .i64 x.e] 33)) := ⟨_, rfl⟩
            have KX : Hid (Blk wx w55.heap.size [.int .i64 x.a, .int .i64 x.b, .int .i64 x.c, .int .i64 x.d, .int .i64 x.e]) := Lib.hid (by rw [hwx]; exact Blk.new w55 _ _)
            have bx : Below w55.heap.size w55 wx := by rw [hwx]; exact (Below.refl _ _).alloc (Nat.le_refl _) _
            rw [← hwx]
            clear hwx
            have Bwx := Lib.hid (Bw55.out.trans (bx.mono Bw55.out.size))
            have HR1' := Lib.hid (HR1.out.below bx)
            clear HR1
            have HR1 := HR1'
            clear HR1'
            clear bx
            obtain ⟨sx, h_sx⟩ : ∃ sx, sx = itV x := ⟨_, rfl⟩
            have HSX := Lib.hid h_sx
            clear h_sx
            obtain ⟨gd, h_gd⟩ : ∃ gd, gd = insB x := ⟨_, rfl⟩
            have HGD := Lib.hid h_gd
            clear h_gd
            obtain ⟨cs, h_cs⟩ : ∃ cs, cs = costV xs := ⟨_, rfl⟩
            have HCS := Lib.hid h_cs
            clear h_cs
            obtain ⟨hs, h_hs⟩ : ∃ hs, hs = insL xs := ⟨_, rfl⟩
            have HHS := Lib.hid h_hs
            clear h_hs
            refine (implInsuredText_any x _ (fun w' h => HT.out w' (Bwx.out.trans (h.mono Bwx.out.size)))).mono ?_
            rintro e w56 ⟨rfl, b⟩
            rw [← HSX.out, ← HGD.out]
            have Bw56 := Lib.hid (Bwx.out.trans (b.mono Bwx.out.size))
            have HR1' := Lib.hid (HR1.out.below b)
            clear HR1
            have HR1 := HR1'
            clear HR1'
            have KX' := Lib.hid (KX.out.below b KX.out.lt)
            clear KX
            have KX := KX'
            clear KX'
            clear b
            have y0 := KX.out.cell 0 _ rfl
            have y1 := KX.out.cell 1 _ rfl
            have y2 := KX.out.cell 2 _ rfl
            have y3 := KX.out.cell 3 _ rfl
            have y4 := KX.out.cell 4 _ rfl
            go_wp2_with fail
            clear y0 y1 y2 y3 y4
            refine (specInsuredText_any x _).mono ?_
            rintro e w57 ⟨rfl, b⟩
            rw [← HSX.out, ← HGD.out]
            have Bw57 := Lib.hid (Bw56.out.trans (b.mono Bw56.out.size))
            have HR1' := Lib.hid (HR1.out.below b)
            clear HR1
            have HR1 := HR1'
            clear HR1'
            clear b KX
            go_wp2_with fail
            refine (implCostOfAll_any A1 xs.length c1 xs _ rfl HR1.out (by omega)).mono ?_
            rintro e w58 ⟨rfl, b⟩
            rw [← HCS.out, ← HHS.out]
            have Bw58 := Lib.hid (Bw57.out.trans (b.mono Bw57.out.size))
            have HR1' := Lib.hid (HR1.out.below b)
            clear HR1
            have HR1 := HR1'
            clear HR1'
            clear b
            go_wp2_with fail
            refine (specCostOfAll_any A1 xs.length c1 xs _ rfl HR1.out (by omega)).mono ?_
            rintro e w59 ⟨rfl, b⟩
            rw [← HCS.out, ← HHS.out]
            have Bw59 := Lib.hid (Bw58.out.trans (b.mono Bw58.out.size))
            have HR1' := Lib.hid (HR1.out.below b)
            clear HR1
            have HR1 := HR1'
            clear HR1'
            clear b
            go_wp2
            go_ret
            exact ⟨by first | rfl | simp, Bw59.out⟩
          | true =>
            obtain ⟨m, hm⟩ : ∃ m, m = (d0 + d1) / 2 := ⟨_, rfl⟩
            obtain ⟨f1, f2, f3, f4, f5, f6, f7⟩ := unc_split HTD.out.symm hm
            rw [← HU.out] at f3
            obtain ⟨ua, h_ua⟩ : ∃ ua, ua = uncV ys y d0 m := ⟨_, rfl⟩
            have HUA := Lib.hid h_ua
            clear h_ua
            obtain ⟨ub, h_ub⟩ : ∃ ub, ub = uncV ys y (m + 1) d1 := ⟨_, rfl⟩
            have HUB := Lib.hid h_ub
            clear h_ub
            rw [← HUA.out, ← HUB.out] at f3
            obtain ⟨lt, h_lt⟩ : ∃ lt, lt = decide (m < d1) := ⟨_, rfl⟩
            have HLT := Lib.hid h_lt
            clear h_lt
            rw [← HLT.out] at f2
            have hw1 : IntKind.i64.wrap (d0 + d1) = d0 + d1 := IntWalk.i64_in _ (by omega)
            have hw2 : IntKind.i64.wrap (m + 1) = m + 1 := IntWalk.i64_in _ (by omega)
            have hw4 : IntKind.i64.wrap m = m := IntWalk.i64_in _ (by omega)
            have hw5 : wrap64 (d0 + d1) = d0 + d1 := IntWalk.wrap64_in _ (by omega)
            have hw6 : wrap64 (m + 1) = m + 1 := IntWalk.wrap64_in _ (by omega)
            have hw3 : IntKind.i64.wrap (ua + ub) = un := by rw [f3]; rw [HU.out]; exact unc_wrap ys y d0 d1
            have hmt : (d0 + d1).tdiv 2 = m := by rw [hm]; rw [Int.tdiv_eq_ediv_of_nonneg (by omega)]
            have F1 := Lib.hid f1
            have F2 := Lib.hid f2
            have HM2 := Lib.hid hm
            clear f1 f2 f3 hm
            have hll : (lt != lt) = false := by simp
            go_wp2_with fail
            refine (implUncoveredDays_any A5 ys.length c5 ys y d0 m _ rfl HR5.out (by omega)).mono ?_
            rintro e w60 ⟨rfl, b⟩
            rw [← HUA.out, F1.out]
            have Bw60 := Lib.hid (Bw51.out.trans (b.mono Bw51.out.size))
            have HR1' := Lib.hid (HR1.out.below b)
            clear HR1
            have HR1 := HR1'
            clear HR1'
            have HR5' := Lib.hid (HR5.out.below b)
            clear HR5
            have HR5 := HR5'
            clear HR5'
            clear b
            go_wp2_with fail
            refine (implUncoveredDays_any A5 ys.length c5 ys y (m + 1) d1 _ rfl HR5.out (by omega)).mono ?_
            rintro e w61 ⟨rfl, b⟩
            rw [← HUB.out, F2.out]
            have Bw61 := Lib.hid (Bw60.out.trans (b.mono Bw60.out.size))
            have HR1' := Lib.hid (HR1.out.below b)
            clear HR1
            have HR1 := HR1'
            clear HR1'
            have HR5' := Lib.hid (HR5.out.below b)
            clear HR5
            have HR5 := HR5'
            clear HR5'
            clear b
            have hlt : decide (m < d1) = lt := HLT.out.symm
            go_wp2_with fail
            refine (D3.out _ (HY.out.below Bw61.out)).mono ?_
            rintro e w62 ⟨v6, us, u, at_, rfl, hl, b⟩
            have Bw62 := Lib.hid (Bw61.out.trans (b.mono Bw61.out.size))
            have HR1' := Lib.hid (HR1.out.below b)
            clear HR1
            have HR1 := HR1'
            clear HR1'
            obtain ⟨A6, c6, rfl, r6, h6, h6m⟩ := hl.form
            have hu := hl.len
            have HR6 := Lib.hid r6
            clear r6 hl b h6 h6m
            obtain ⟨cu, h_cu⟩ : ∃ cu, cu = covV us u at_ := ⟨_, rfl⟩
            have HCU := Lib.hid h_cu
            clear h_cu
            obtain ⟨kn, h_kn⟩ : ∃ kn, kn = covB us u at_ := ⟨_, rfl⟩
            have HKN := Lib.hid h_kn
            clear h_kn
            go_wp2_with fail
            refine (implCoverOn_any A6 us.length c6 us u at_ _ rfl HR6.out (by omega)).mono ?_
            rintro e w63 ⟨rfl, b⟩
            rw [← HCU.out, ← HKN.out]
            have Bw63 := Lib.hid (Bw62.out.trans (b.mono Bw62.out.size))
            have HR1' := Lib.hid (HR1.out.below b)
            clear HR1
            have HR1 := HR1'
            clear HR1'
            have HR6' := Lib.hid (HR6.out.below b)
            clear HR6
            have HR6 := HR6'
            clear HR6'
            clear b
            go_wp2_with fail
            refine (specCoverOn_any A6 us.length c6 us u at_ _ rfl HR6.out (by omega)).mono ?_
            rintro e w64 ⟨rfl, b⟩
            rw [← HCU.out, ← HKN.out]
            have Bw64 := Lib.hid (Bw63.out.trans (b.mono Bw63.out.size))
            have HR1' := Lib.hid (HR1.out.below b)
            clear HR1
            have HR1 := HR1'
            clear HR1'
            clear b
            go_wp2_with fail
            refine (D4.out _ (HY.out.below Bw64.out)).mono ?_
            rintro e w65 ⟨x, rfl, b⟩
            have Bw65 := Lib.hid (Bw64.out.trans (b.mono Bw64.out.size))
            have HR1' := Lib.hid (HR1.out.below b)
            clear HR1
            have HR1 := HR1'
            clear HR1'
            clear b
            go_wp2_with fail
            obtain ⟨wx, hwx⟩ : ∃ wx, wx = (w65.alloc (.cells #[.int .i64 x.a, .int .i64 x.b, .int .i64 x.c, .int .i64 x.d, .int .i64 x.e] 33)) := ⟨_, rfl⟩
            have KX : Hid (Blk wx w65.heap.size [.int .i64 x.a, .int .i64 x.b, .int .i64 x.c, .int .i64 x.d, .int .i64 x.e]) := Lib.hid (by rw [hwx]; exact Blk.new w65 _ _)
            have bx : Below w65.heap.size w65 wx := by rw [hwx]; exact (Below.refl _ _).alloc (Nat.le_refl _) _
            rw [← hwx]
            clear hwx
            have Bwx := Lib.hid (Bw65.out.trans (bx.mono Bw65.out.size))
            have HR1' := Lib.hid (HR1.out.below bx)
            clear HR1
            have HR1 := HR1'
            clear HR1'
            clear bx
            obtain ⟨sx, h_sx⟩ : ∃ sx, sx = itV x := ⟨_, rfl⟩
            have HSX := Lib.hid h_sx
            clear h_sx
            obtain ⟨gd, h_gd⟩ : ∃ gd, gd = insB x := ⟨_, rfl⟩
            have HGD := Lib.hid h_gd
            clear h_gd
            obtain ⟨cs, h_cs⟩ : ∃ cs, cs = costV xs := ⟨_, rfl⟩
            have HCS := Lib.hid h_cs
            clear h_cs
            obtain ⟨hs, h_hs⟩ : ∃ hs, hs = insL xs := ⟨_, rfl⟩
            have HHS := Lib.hid h_hs
            clear h_hs
            refine (implInsuredText_any x _ (fun w' h => HT.out w' (Bwx.out.trans (h.mono Bwx.out.size)))).mono ?_
            rintro e w66 ⟨rfl, b⟩
            rw [← HSX.out, ← HGD.out]
            have Bw66 := Lib.hid (Bwx.out.trans (b.mono Bwx.out.size))
            have HR1' := Lib.hid (HR1.out.below b)
            clear HR1
            have HR1 := HR1'
            clear HR1'
            have KX' := Lib.hid (KX.out.below b KX.out.lt)
            clear KX
            have KX := KX'
            clear KX'
            clear b
            have y0 := KX.out.cell 0 _ rfl
            have y1 := KX.out.cell 1 _ rfl
            have y2 := KX.out.cell 2 _ rfl
            have y3 := KX.out.cell 3 _ rfl
            have y4 := KX.out.cell 4 _ rfl
            go_wp2_with fail
            clear y0 y1 y2 y3 y4
            refine (specInsuredText_any x _).mono ?_
            rintro e w67 ⟨rfl, b⟩
            rw [← HSX.out, ← HGD.out]
            have Bw67 := Lib.hid (Bw66.out.trans (b.mono Bw66.out.size))
            have HR1' := Lib.hid (HR1.out.below b)
            clear HR1
            have HR1 := HR1'
            clear HR1'
            clear b KX
            go_wp2_with fail
            refine (implCostOfAll_any A1 xs.length c1 xs _ rfl HR1.out (by omega)).mono ?_
            rintro e w68 ⟨rfl, b⟩
            rw [← HCS.out, ← HHS.out]
            have Bw68 := Lib.hid (Bw67.out.trans (b.mono Bw67.out.size))
            have HR1' := Lib.hid (HR1.out.below b)
            clear HR1
            have HR1 := HR1'
            clear HR1'
            clear b
            go_wp2_with fail
            refine (specCostOfAll_any A1 xs.length c1 xs _ rfl HR1.out (by omega)).mono ?_
            rintro e w69 ⟨rfl, b⟩
            rw [← HCS.out, ← HHS.out]
            have Bw69 := Lib.hid (Bw68.out.trans (b.mono Bw68.out.size))
            have HR1' := Lib.hid (HR1.out.below b)
            clear HR1
            have HR1 := HR1'
            clear HR1'
            clear b
            go_wp2
            go_ret
            exact ⟨by first | rfl | simp, Bw69.out⟩
  | true =>
    obtain ⟨q1, q2, q3, q4, q5, q6⟩ := gap_found (xs := xs) (item := item) (g := gap) (Prod.ext HG.out.symm HOK.out.symm)
    obtain ⟨cb, h_cb⟩ : ∃ cb, cb = covV xs item (gap - 1) := ⟨_, rfl⟩
    have HCB := Lib.hid h_cb
    clear h_cb
    rw [← HCB.out] at q4
    have hw1 : IntKind.i64.wrap (gap - 1) = gap - 1 := IntWalk.i64_in _ (by omega)
    have hc0 : (cb == 0) = false := by simpa using q4
    have HQ1 := Lib.hid q1
    have HQ2 := Lib.hid q2
    have HQ3 := Lib.hid q3
    clear q1 q2 q3 q5 q6
    go_wp2_with fail
    refine (implCoverOn_any A1 xs.length c1 xs item gap _ rfl HR1.out (by omega)).mono ?_
    rintro e w70 ⟨rfl, b⟩
    rw [HQ2.out, HQ1.out]
    have Bw70 := Lib.hid (Bw3.out.trans (b.mono Bw3.out.size))
    have HR1' := Lib.hid (HR1.out.below b)
    clear HR1
    have HR1 := HR1'
    clear HR1'
    clear b
    go_wp2_with fail
    refine (implCoverOn_any A1 xs.length c1 xs item (gap - 1) _ rfl HR1.out (by omega)).mono ?_
    rintro e w71 ⟨rfl, b⟩
    rw [← HCB.out, HQ3.out]
    have Bw71 := Lib.hid (Bw70.out.trans (b.mono Bw70.out.size))
    have HR1' := Lib.hid (HR1.out.below b)
    clear HR1
    have HR1 := HR1'
    clear HR1'
    clear b
    obtain ⟨day, h_day⟩ : ∃ day, day = (gcV xs item).1 := ⟨_, rfl⟩
    have HD := Lib.hid h_day
    clear h_day
    obtain ⟨most, h_most⟩ : ∃ most, most = (gcV xs item).2 := ⟨_, rfl⟩
    have HM := Lib.hid h_most
    clear h_most
    obtain ⟨fine, h_fine⟩ : ∃ fine, fine = decide (0 < (gcV xs item).2) := ⟨_, rfl⟩
    have HF := Lib.hid h_fine
    clear h_fine
    have hdd : (day != day) = false := by simp
    have hmm : (most != most) = false := by simp
    go_wp2_with fail
    refine (implGreatestCover_any A1 xs.length c1 xs item _ rfl HR1.out (by omega)).mono ?_
    rintro e w72 ⟨rfl, b⟩
    rw [← HF.out, ← HD.out, ← HM.out]
    have Bw72 := Lib.hid (Bw71.out.trans (b.mono Bw71.out.size))
    have HR1' := Lib.hid (HR1.out.below b)
    clear HR1
    have HR1 := HR1'
    clear HR1'
    clear b
    go_wp2_with fail
    refine (specGreatestCover_any A1 xs.length c1 xs item _ rfl HR1.out (by omega)).mono ?_
    rintro e w73 ⟨rfl, b⟩
    rw [← HF.out, ← HD.out, ← HM.out]
    have Bw73 := Lib.hid (Bw72.out.trans (b.mono Bw72.out.size))
    have HR1' := Lib.hid (HR1.out.below b)
    clear HR1
    have HR1 := HR1'
    clear HR1'
    clear b
    cases fine with
    | false =>
      go_wp2_with fail
      go_loopw [19, 20, 21] (fun i _ _ wr => ∃ t : Nat, i = .int .i64 t ∧ t ≤ xs.length ∧ Below w73.heap.size w73 wr) (fun i _ _ _ => xs.length - (intOf i).toNat)
      case atStart => exact ⟨0, rfl, by omega, Below.refl _ _⟩
      case round =>
        obtain ⟨t, rfl, ht, hbw⟩ := hrel
        have HBW := Lib.hid hbw
        have hsw := hbw.size
        clear hbw
        by_cases htl : t < xs.length
        · have htl' : (t : Int) < (xs.length : Int) := by omega
          have Bwr := Lib.hid (Bw73.out.trans (HBW.out.mono Bw73.out.size))
          have HR1' := Lib.hid (HR1.out.below HBW.out)
          clear HR1
          have HR1 := HR1'
          clear HR1'
          go_wp2_with fail
          refine (D2.out _ (HY.out.below Bwr.out)).mono ?_
          rintro e w74 ⟨v5, ys, y, d0, d1, rfl, hl, b⟩
          have Bw74 := Lib.hid (Bwr.out.trans (b.mono Bwr.out.size))
          have HR1' := Lib.hid (HR1.out.below b)
          clear HR1
          have HR1 := HR1'
          clear HR1'
          obtain ⟨A5, c5, rfl, r5, h5, h5m⟩ := hl.form
          have hy := hl.len
          have HR5 := Lib.hid r5
          clear r5 hl b h5 h5m
          obtain ⟨un, h_un⟩ : ∃ un, un = uncV ys y d0 d1 := ⟨_, rfl⟩
          have HU := Lib.hid h_un
          clear h_un
          obtain ⟨told, h_told⟩ : ∃ told, told = uncB ys y d0 d1 := ⟨_, rfl⟩
          have HTD := Lib.hid h_told
          clear h_told
          have huu : (un != un) = false := by simp
          go_wp2_with fail
          refine (implUncoveredDays_any A5 ys.length c5 ys y d0 d1 _ rfl HR5.out (by omega)).mono ?_
          rintro e w75 ⟨rfl, b⟩
          rw [← HU.out, ← HTD.out]
          have Bw75 := Lib.hid (Bw74.out.trans (b.mono Bw74.out.size))
          have HR1' := Lib.hid (HR1.out.below b)
          clear HR1
          have HR1 := HR1'
          clear HR1'
          have HR5' := Lib.hid (HR5.out.below b)
          clear HR5
          have HR5 := HR5'
          clear HR5'
          clear b
          go_wp2_with fail
          refine (specUncoveredDays_any A5 ys.length c5 ys y d0 d1 _ rfl HR5.out (by omega)).mono ?_
          rintro e w76 ⟨rfl, b⟩
          rw [← HU.out, ← HTD.out]
          have Bw76 := Lib.hid (Bw75.out.trans (b.mono Bw75.out.size))
          have HR1' := Lib.hid (HR1.out.below b)
          clear HR1
          have HR1 := HR1'
          clear HR1'
          have HR5' := Lib.hid (HR5.out.below b)
          clear HR5
          have HR5 := HR5'
          clear HR5'
          clear b
          cases told with
          | false =>
            go_wp2_with fail
            refine (D3.out _ (HY.out.below Bw76.out)).mono ?_
            rintro e w77 ⟨v6, us, u, at_, rfl, hl, b⟩
            have Bw77 := Lib.hid (Bw76.out.trans (b.mono Bw76.out.size))
            have HR1' := Lib.hid (HR1.out.below b)
            clear HR1
            have HR1 := HR1'
            clear HR1'
            obtain ⟨A6, c6, rfl, r6, h6, h6m⟩ := hl.form
            have hu := hl.len
            have HR6 := Lib.hid r6
            clear r6 hl b h6 h6m
            obtain ⟨cu, h_cu⟩ : ∃ cu, cu = covV us u at_ := ⟨_, rfl⟩
            have HCU := Lib.hid h_cu
            clear h_cu
            obtain ⟨kn, h_kn⟩ : ∃ kn, kn = covB us u at_ := ⟨_, rfl⟩
            have HKN := Lib.hid h_kn
            clear h_kn
            go_wp2_with fail
            refine (implCoverOn_any A6 us.length c6 us u at_ _ rfl HR6.out (by omega)).mono ?_
            rintro e w78 ⟨rfl, b⟩
            rw [← HCU.out, ← HKN.out]
            have Bw78 := Lib.hid (Bw77.out.trans (b.mono Bw77.out.size))
            have HR1' := Lib.hid (HR1.out.below b)
            clear HR1
            have HR1 := HR1'
            clear HR1'
            have HR6' := Lib.hid (HR6.out.below b)
            clear HR6
            have HR6 := HR6'
            clear HR6'
            clear b
            go_wp2_with fail
            refine (specCoverOn_any A6 us.length c6 us u at_ _ rfl HR6.out (by omega)).mono ?_
            rintro e w79 ⟨rfl, b⟩
            rw [← HCU.out, ← HKN.out]
            have Bw79 := Lib.hid (Bw78.out.trans (b.mono Bw78.out.size))
            have HR1' := Lib.hid (HR1.out.below b)
            clear HR1
            have HR1 := HR1'
            clear HR1'
            clear b
            go_wp2_with fail
            refine (D4.out _ (HY.out.below Bw79.out)).mono ?_
            rintro e w80 ⟨x, rfl, b⟩
            have Bw80 := Lib.hid (Bw79.out.trans (b.mono Bw79.out.size))
            have HR1' := Lib.hid (HR1.out.below b)
            clear HR1
            have HR1 := HR1'
            clear HR1'
            clear b
            go_wp2_with fail
            obtain ⟨wx, hwx⟩ : ∃ wx, wx = (w80.alloc (.cells #[.int .i64 x.a, .int .i64 x.b, .int .i64 x.c, .int .i64 x.d, .int .i64 x.e] 33)) := ⟨_, rfl⟩
            have KX : Hid (Blk wx w80.heap.size [.int .i64 x.a, .int .i64 x.b, .int .i64 x.c, .int .i64 x.d, .int .i64 x.e]) := Lib.hid (by rw [hwx]; exact Blk.new w80 _ _)
            have bx : Below w80.heap.size w80 wx := by rw [hwx]; exact (Below.refl _ _).alloc (Nat.le_refl _) _
            rw [← hwx]
            clear hwx
            have Bwx := Lib.hid (Bw80.out.trans (bx.mono Bw80.out.size))
            have HR1' := Lib.hid (HR1.out.below bx)
            clear HR1
            have HR1 := HR1'
            clear HR1'
            clear bx
            obtain ⟨sx, h_sx⟩ : ∃ sx, sx = itV x := ⟨_, rfl⟩
            have HSX := Lib.hid h_sx
            clear h_sx
            obtain ⟨gd, h_gd⟩ : ∃ gd, gd = insB x := ⟨_, rfl⟩
            have HGD := Lib.hid h_gd
            clear h_gd
            obtain ⟨cs, h_cs⟩ : ∃ cs, cs = costV xs := ⟨_, rfl⟩
            have HCS := Lib.hid h_cs
            clear h_cs
            obtain ⟨hs, h_hs⟩ : ∃ hs, hs = insL xs := ⟨_, rfl⟩
            have HHS := Lib.hid h_hs
            clear h_hs
            refine (implInsuredText_any x _ (fun w' h => HT.out w' (Bwx.out.trans (h.mono Bwx.out.size)))).mono ?_
            rintro e w81 ⟨rfl, b⟩
            rw [← HSX.out, ← HGD.out]
            have Bw81 := Lib.hid (Bwx.out.trans (b.mono Bwx.out.size))
            have HR1' := Lib.hid (HR1.out.below b)
            clear HR1
            have HR1 := HR1'
            clear HR1'
            have KX' := Lib.hid (KX.out.below b KX.out.lt)
            clear KX
            have KX := KX'
            clear KX'
            clear b
            have y0 := KX.out.cell 0 _ rfl
            have y1 := KX.out.cell 1 _ rfl
            have y2 := KX.out.cell 2 _ rfl
            have y3 := KX.out.cell 3 _ rfl
            have y4 := KX.out.cell 4 _ rfl
            go_wp2_with fail
            clear y0 y1 y2 y3 y4
            refine (specInsuredText_any x _).mono ?_
            rintro e w82 ⟨rfl, b⟩
            rw [← HSX.out, ← HGD.out]
            have Bw82 := Lib.hid (Bw81.out.trans (b.mono Bw81.out.size))
            have HR1' := Lib.hid (HR1.out.below b)
            clear HR1
            have HR1 := HR1'
            clear HR1'
            clear b KX
            go_wp2_with fail
            refine (implCostOfAll_any A1 xs.length c1 xs _ rfl HR1.out (by omega)).mono ?_
            rintro e w83 ⟨rfl, b⟩
            rw [← HCS.out, ← HHS.out]
            have Bw83 := Lib.hid (Bw82.out.trans (b.mono Bw82.out.size))
            have HR1' := Lib.hid (HR1.out.below b)
            clear HR1
            have HR1 := HR1'
            clear HR1'
            clear b
            go_wp2_with fail
            refine (specCostOfAll_any A1 xs.length c1 xs _ rfl HR1.out (by omega)).mono ?_
            rintro e w84 ⟨rfl, b⟩
            rw [← HCS.out, ← HHS.out]
            have Bw84 := Lib.hid (Bw83.out.trans (b.mono Bw83.out.size))
            have HR1' := Lib.hid (HR1.out.below b)
            clear HR1
            have HR1 := HR1'
            clear HR1'
            clear b
            go_wp2
            go_ret
            exact ⟨by first | rfl | simp, Bw84.out⟩
          | true =>
            obtain ⟨m, hm⟩ : ∃ m, m = (d0 + d1) / 2 := ⟨_, rfl⟩
            obtain ⟨f1, f2, f3, f4, f5, f6, f7⟩ := unc_split HTD.out.symm hm
            rw [← HU.out] at f3
            obtain ⟨ua, h_ua⟩ : ∃ ua, ua = uncV ys y d0 m := ⟨_, rfl⟩
            have HUA := Lib.hid h_ua
            clear h_ua
            obtain ⟨ub, h_ub⟩ : ∃ ub, ub = uncV ys y (m + 1) d1 := ⟨_, rfl⟩
            have HUB := Lib.hid h_ub
            clear h_ub
            rw [← HUA.out, ← HUB.out] at f3
            obtain ⟨lt, h_lt⟩ : ∃ lt, lt = decide (m < d1) := ⟨_, rfl⟩
            have HLT := Lib.hid h_lt
            clear h_lt
            rw [← HLT.out] at f2
            have hw1 : IntKind.i64.wrap (d0 + d1) = d0 + d1 := IntWalk.i64_in _ (by omega)
            have hw2 : IntKind.i64.wrap (m + 1) = m + 1 := IntWalk.i64_in _ (by omega)
            have hw4 : IntKind.i64.wrap m = m := IntWalk.i64_in _ (by omega)
            have hw5 : wrap64 (d0 + d1) = d0 + d1 := IntWalk.wrap64_in _ (by omega)
            have hw6 : wrap64 (m + 1) = m + 1 := IntWalk.wrap64_in _ (by omega)
            have hw3 : IntKind.i64.wrap (ua + ub) = un := by rw [f3]; rw [HU.out]; exact unc_wrap ys y d0 d1
            have hmt : (d0 + d1).tdiv 2 = m := by rw [hm]; rw [Int.tdiv_eq_ediv_of_nonneg (by omega)]
            have F1 := Lib.hid f1
            have F2 := Lib.hid f2
            have HM2 := Lib.hid hm
            clear f1 f2 f3 hm
            have hll : (lt != lt) = false := by simp
            go_wp2_with fail
            refine (implUncoveredDays_any A5 ys.length c5 ys y d0 m _ rfl HR5.out (by omega)).mono ?_
            rintro e w85 ⟨rfl, b⟩
            rw [← HUA.out, F1.out]
            have Bw85 := Lib.hid (Bw76.out.trans (b.mono Bw76.out.size))
            have HR1' := Lib.hid (HR1.out.below b)
            clear HR1
            have HR1 := HR1'
            clear HR1'
            have HR5' := Lib.hid (HR5.out.below b)
            clear HR5
            have HR5 := HR5'
            clear HR5'
            clear b
            go_wp2_with fail
            refine (implUncoveredDays_any A5 ys.length c5 ys y (m + 1) d1 _ rfl HR5.out (by omega)).mono ?_
            rintro e w86 ⟨rfl, b⟩
            rw [← HUB.out, F2.out]
            have Bw86 := Lib.hid (Bw85.out.trans (b.mono Bw85.out.size))
            have HR1' := Lib.hid (HR1.out.below b)
            clear HR1
            have HR1 := HR1'
            clear HR1'
            have HR5' := Lib.hid (HR5.out.below b)
            clear HR5
            have HR5 := HR5'
            clear HR5'
            clear b
            have hlt : decide (m < d1) = lt := HLT.out.symm
            go_wp2_with fail
            refine (D3.out _ (HY.out.below Bw86.out)).mono ?_
            rintro e w87 ⟨v6, us, u, at_, rfl, hl, b⟩
            have Bw87 := Lib.hid (Bw86.out.trans (b.mono Bw86.out.size))
            have HR1' := Lib.hid (HR1.out.below b)
            clear HR1
            have HR1 := HR1'
            clear HR1'
            obtain ⟨A6, c6, rfl, r6, h6, h6m⟩ := hl.form
            have hu := hl.len
            have HR6 := Lib.hid r6
            clear r6 hl b h6 h6m
            obtain ⟨cu, h_cu⟩ : ∃ cu, cu = covV us u at_ := ⟨_, rfl⟩
            have HCU := Lib.hid h_cu
            clear h_cu
            obtain ⟨kn, h_kn⟩ : ∃ kn, kn = covB us u at_ := ⟨_, rfl⟩
            have HKN := Lib.hid h_kn
            clear h_kn
            go_wp2_with fail
            refine (implCoverOn_any A6 us.length c6 us u at_ _ rfl HR6.out (by omega)).mono ?_
            rintro e w88 ⟨rfl, b⟩
            rw [← HCU.out, ← HKN.out]
            have Bw88 := Lib.hid (Bw87.out.trans (b.mono Bw87.out.size))
            have HR1' := Lib.hid (HR1.out.below b)
            clear HR1
            have HR1 := HR1'
            clear HR1'
            have HR6' := Lib.hid (HR6.out.below b)
            clear HR6
            have HR6 := HR6'
            clear HR6'
            clear b
            go_wp2_with fail
            refine (specCoverOn_any A6 us.length c6 us u at_ _ rfl HR6.out (by omega)).mono ?_
            rintro e w89 ⟨rfl, b⟩
            rw [← HCU.out, ← HKN.out]
            have Bw89 := Lib.hid (Bw88.out.trans (b.mono Bw88.out.size))
            have HR1' := Lib.hid (HR1.out.below b)
            clear HR1
            have HR1 := HR1'
            clear HR1'
            clear b
            go_wp2_with fail
            refine (D4.out _ (HY.out.below Bw89.out)).mono ?_
            rintro e w90 ⟨x, rfl, b⟩
            have Bw90 := Lib.hid (Bw89.out.trans (b.mono Bw89.out.size))
            have HR1' := Lib.hid (HR1.out.below b)
            clear HR1
            have HR1 := HR1'
            clear HR1'
            clear b
            go_wp2_with fail
            obtain ⟨wx, hwx⟩ : ∃ wx, wx = (w90.alloc (.cells #[.int .i64 x.a, .int .i64 x.b, .int .i64 x.c, .int .i64 x.d, .int .i64 x.e] 33)) := ⟨_, rfl⟩
            have KX : Hid (Blk wx w90.heap.size [.int .i64 x.a, .int .i64 x.b, .int .i64 x.c, .int .i64 x.d, .int .i64 x.e]) := Lib.hid (by rw [hwx]; exact Blk.new w90 _ _)
            have bx : Below w90.heap.size w90 wx := by rw [hwx]; exact (Below.refl _ _).alloc (Nat.le_refl _) _
            rw [← hwx]
            clear hwx
            have Bwx := Lib.hid (Bw90.out.trans (bx.mono Bw90.out.size))
            have HR1' := Lib.hid (HR1.out.below bx)
            clear HR1
            have HR1 := HR1'
            clear HR1'
            clear bx
            obtain ⟨sx, h_sx⟩ : ∃ sx, sx = itV x := ⟨_, rfl⟩
            have HSX := Lib.hid h_sx
            clear h_sx
            obtain ⟨gd, h_gd⟩ : ∃ gd, gd = insB x := ⟨_, rfl⟩
            have HGD := Lib.hid h_gd
            clear h_gd
            obtain ⟨cs, h_cs⟩ : ∃ cs, cs = costV xs := ⟨_, rfl⟩
            have HCS := Lib.hid h_cs
            clear h_cs
            obtain ⟨hs, h_hs⟩ : ∃ hs, hs = insL xs := ⟨_, rfl⟩
            have HHS := Lib.hid h_hs
            clear h_hs
            refine (implInsuredText_any x _ (fun w' h => HT.out w' (Bwx.out.trans (h.mono Bwx.out.size)))).mono ?_
            rintro e w91 ⟨rfl, b⟩
            rw [← HSX.out, ← HGD.out]
            have Bw91 := Lib.hid (Bwx.out.trans (b.mono Bwx.out.size))
            have HR1' := Lib.hid (HR1.out.below b)
            clear HR1
            have HR1 := HR1'
            clear HR1'
            have KX' := Lib.hid (KX.out.below b KX.out.lt)
            clear KX
            have KX := KX'
            clear KX'
            clear b
            have y0 := KX.out.cell 0 _ rfl
            have y1 := KX.out.cell 1 _ rfl
            have y2 := KX.out.cell 2 _ rfl
            have y3 := KX.out.cell 3 _ rfl
            have y4 := KX.out.cell 4 _ rfl
            go_wp2_with fail
            clear y0 y1 y2 y3 y4
            refine (specInsuredText_any x _).mono ?_
            rintro e w92 ⟨rfl, b⟩
            rw [← HSX.out, ← HGD.out]
            have Bw92 := Lib.hid (Bw91.out.trans (b.mono Bw91.out.size))
            have HR1' := Lib.hid (HR1.out.below b)
            clear HR1
            have HR1 := HR1'
            clear HR1'
            clear b KX
            go_wp2_with fail
            refine (implCostOfAll_any A1 xs.length c1 xs _ rfl HR1.out (by omega)).mono ?_
            rintro e w93 ⟨rfl, b⟩
            rw [← HCS.out, ← HHS.out]
            have Bw93 := Lib.hid (Bw92.out.trans (b.mono Bw92.out.size))
            have HR1' := Lib.hid (HR1.out.below b)
            clear HR1
            have HR1 := HR1'
            clear HR1'
            clear b
            go_wp2_with fail
            refine (specCostOfAll_any A1 xs.length c1 xs _ rfl HR1.out (by omega)).mono ?_
            rintro e w94 ⟨rfl, b⟩
            rw [← HCS.out, ← HHS.out]
            have Bw94 := Lib.hid (Bw93.out.trans (b.mono Bw93.out.size))
            have HR1' := Lib.hid (HR1.out.below b)
            clear HR1
            have HR1 := HR1'
            clear HR1'
            clear b
            go_wp2
            go_ret
            exact ⟨by first | rfl | simp, Bw94.out⟩
        · obtain rfl : t = xs.length := by omega
          have Bwr := Lib.hid (Bw73.out.trans (HBW.out.mono Bw73.out.size))
          have HR1' := Lib.hid (HR1.out.below HBW.out)
          clear HR1
          have HR1 := HR1'
          clear HR1'
          go_wp2_with fail
          refine (D2.out _ (HY.out.below Bwr.out)).mono ?_
          rintro e w95 ⟨v5, ys, y, d0, d1, rfl, hl, b⟩
          have Bw95 := Lib.hid (Bwr.out.trans (b.mono Bwr.out.size))
          have HR1' := Lib.hid (HR1.out.below b)
          clear HR1
          have HR1 := HR1'
          clear HR1'
          obtain ⟨A5, c5, rfl, r5, h5, h5m⟩ := hl.form
          have hy := hl.len
          have HR5 := Lib.hid r5
          clear r5 hl b h5 h5m
          obtain ⟨un, h_un⟩ : ∃ un, un = uncV ys y d0 d1 := ⟨_, rfl⟩
          have HU := Lib.hid h_un
          clear h_un
          obtain ⟨told, h_told⟩ : ∃ told, told = uncB ys y d0 d1 := ⟨_, rfl⟩
          have HTD := Lib.hid h_told
          clear h_told
          have huu : (un != un) = false := by simp
          go_wp2_with fail
          refine (implUncoveredDays_any A5 ys.length c5 ys y d0 d1 _ rfl HR5.out (by omega)).mono ?_
          rintro e w96 ⟨rfl, b⟩
          rw [← HU.out, ← HTD.out]
          have Bw96 := Lib.hid (Bw95.out.trans (b.mono Bw95.out.size))
          have HR1' := Lib.hid (HR1.out.below b)
          clear HR1
          have HR1 := HR1'
          clear HR1'
          have HR5' := Lib.hid (HR5.out.below b)
          clear HR5
          have HR5 := HR5'
          clear HR5'
          clear b
          go_wp2_with fail
          refine (specUncoveredDays_any A5 ys.length c5 ys y d0 d1 _ rfl HR5.out (by omega)).mono ?_
          rintro e w97 ⟨rfl, b⟩
          rw [← HU.out, ← HTD.out]
          have Bw97 := Lib.hid (Bw96.out.trans (b.mono Bw96.out.size))
          have HR1' := Lib.hid (HR1.out.below b)
          clear HR1
          have HR1 := HR1'
          clear HR1'
          have HR5' := Lib.hid (HR5.out.below b)
          clear HR5
          have HR5 := HR5'
          clear HR5'
          clear b
          cases told with
          | false =>
            go_wp2_with fail
            refine (D3.out _ (HY.out.below Bw97.out)).mono ?_
            rintro e w98 ⟨v6, us, u, at_, rfl, hl, b⟩
            have Bw98 := Lib.hid (Bw97.out.trans (b.mono Bw97.out.size))
            have HR1' := Lib.hid (HR1.out.below b)
            clear HR1
            have HR1 := HR1'
            clear HR1'
            obtain ⟨A6, c6, rfl, r6, h6, h6m⟩ := hl.form
            have hu := hl.len
            have HR6 := Lib.hid r6
            clear r6 hl b h6 h6m
            obtain ⟨cu, h_cu⟩ : ∃ cu, cu = covV us u at_ := ⟨_, rfl⟩
            have HCU := Lib.hid h_cu
            clear h_cu
            obtain ⟨kn, h_kn⟩ : ∃ kn, kn = covB us u at_ := ⟨_, rfl⟩
            have HKN := Lib.hid h_kn
            clear h_kn
            go_wp2_with fail
            refine (implCoverOn_any A6 us.length c6 us u at_ _ rfl HR6.out (by omega)).mono ?_
            rintro e w99 ⟨rfl, b⟩
            rw [← HCU.out, ← HKN.out]
            have Bw99 := Lib.hid (Bw98.out.trans (b.mono Bw98.out.size))
            have HR1' := Lib.hid (HR1.out.below b)
            clear HR1
            have HR1 := HR1'
            clear HR1'
            have HR6' := Lib.hid (HR6.out.below b)
            clear HR6
            have HR6 := HR6'
            clear HR6'
            clear b
            go_wp2_with fail
            refine (specCoverOn_any A6 us.length c6 us u at_ _ rfl HR6.out (by omega)).mono ?_
            rintro e w100 ⟨rfl, b⟩
            rw [← HCU.out, ← HKN.out]
            have Bw100 := Lib.hid (Bw99.out.trans (b.mono Bw99.out.size))
            have HR1' := Lib.hid (HR1.out.below b)
            clear HR1
            have HR1 := HR1'
            clear HR1'
            clear b
            go_wp2_with fail
            refine (D4.out _ (HY.out.below Bw100.out)).mono ?_
            rintro e w101 ⟨x, rfl, b⟩
            have Bw101 := Lib.hid (Bw100.out.trans (b.mono Bw100.out.size))
            have HR1' := Lib.hid (HR1.out.below b)
            clear HR1
            have HR1 := HR1'
            clear HR1'
            clear b
            go_wp2_with fail
            obtain ⟨wx, hwx⟩ : ∃ wx, wx = (w101.alloc (.cells #[.int .i64 x.a, .int .i64 x.b, .int .i64 x.c, .int .i64 x.d, .int .i64 x.e] 33)) := ⟨_, rfl⟩
            have KX : Hid (Blk wx w101.heap.size [.int .i64 x.a, .int .i64 x.b, .int .i64 x.c, .int .i64 x.d, .int .i64 x.e]) := Lib.hid (by rw [hwx]; exact Blk.new w101 _ _)
            have bx : Below w101.heap.size w101 wx := by rw [hwx]; exact (Below.refl _ _).alloc (Nat.le_refl _) _
            rw [← hwx]
            clear hwx
            have Bwx := Lib.hid (Bw101.out.trans (bx.mono Bw101.out.size))
            have HR1' := Lib.hid (HR1.out.below bx)
            clear HR1
            have HR1 := HR1'
            clear HR1'
            clear bx
            obtain ⟨sx, h_sx⟩ : ∃ sx, sx = itV x := ⟨_, rfl⟩
            have HSX := Lib.hid h_sx
            clear h_sx
            obtain ⟨gd, h_gd⟩ : ∃ gd, gd = insB x := ⟨_, rfl⟩
            have HGD := Lib.hid h_gd
            clear h_gd
            obtain ⟨cs, h_cs⟩ : ∃ cs, cs = costV xs := ⟨_, rfl⟩
            have HCS := Lib.hid h_cs
            clear h_cs
            obtain ⟨hs, h_hs⟩ : ∃ hs, hs = insL xs := ⟨_, rfl⟩
            have HHS := Lib.hid h_hs
            clear h_hs
            refine (implInsuredText_any x _ (fun w' h => HT.out w' (Bwx.out.trans (h.mono Bwx.out.size)))).mono ?_
            rintro e w102 ⟨rfl, b⟩
            rw [← HSX.out, ← HGD.out]
            have Bw102 := Lib.hid (Bwx.out.trans (b.mono Bwx.out.size))
            have HR1' := Lib.hid (HR1.out.below b)
            clear HR1
            have HR1 := HR1'
            clear HR1'
            have KX' := Lib.hid (KX.out.below b KX.out.lt)
            clear KX
            have KX := KX'
            clear KX'
            clear b
            have y0 := KX.out.cell 0 _ rfl
            have y1 := KX.out.cell 1 _ rfl
            have y2 := KX.out.cell 2 _ rfl
            have y3 := KX.out.cell 3 _ rfl
            have y4 := KX.out.cell 4 _ rfl
            go_wp2_with fail
            clear y0 y1 y2 y3 y4
            refine (specInsuredText_any x _).mono ?_
            rintro e w103 ⟨rfl, b⟩
            rw [← HSX.out, ← HGD.out]
            have Bw103 := Lib.hid (Bw102.out.trans (b.mono Bw102.out.size))
            have HR1' := Lib.hid (HR1.out.below b)
            clear HR1
            have HR1 := HR1'
            clear HR1'
            clear b KX
            go_wp2_with fail
            refine (implCostOfAll_any A1 xs.length c1 xs _ rfl HR1.out (by omega)).mono ?_
            rintro e w104 ⟨rfl, b⟩
            rw [← HCS.out, ← HHS.out]
            have Bw104 := Lib.hid (Bw103.out.trans (b.mono Bw103.out.size))
            have HR1' := Lib.hid (HR1.out.below b)
            clear HR1
            have HR1 := HR1'
            clear HR1'
            clear b
            go_wp2_with fail
            refine (specCostOfAll_any A1 xs.length c1 xs _ rfl HR1.out (by omega)).mono ?_
            rintro e w105 ⟨rfl, b⟩
            rw [← HCS.out, ← HHS.out]
            have Bw105 := Lib.hid (Bw104.out.trans (b.mono Bw104.out.size))
            have HR1' := Lib.hid (HR1.out.below b)
            clear HR1
            have HR1 := HR1'
            clear HR1'
            clear b
            go_wp2
            go_ret
            exact ⟨by first | rfl | simp, Bw105.out⟩
          | true =>
            obtain ⟨m, hm⟩ : ∃ m, m = (d0 + d1) / 2 := ⟨_, rfl⟩
            obtain ⟨f1, f2, f3, f4, f5, f6, f7⟩ := unc_split HTD.out.symm hm
            rw [← HU.out] at f3
            obtain ⟨ua, h_ua⟩ : ∃ ua, ua = uncV ys y d0 m := ⟨_, rfl⟩
            have HUA := Lib.hid h_ua
            clear h_ua
            obtain ⟨ub, h_ub⟩ : ∃ ub, ub = uncV ys y (m + 1) d1 := ⟨_, rfl⟩
            have HUB := Lib.hid h_ub
            clear h_ub
            rw [← HUA.out, ← HUB.out] at f3
            obtain ⟨lt, h_lt⟩ : ∃ lt, lt = decide (m < d1) := ⟨_, rfl⟩
            have HLT := Lib.hid h_lt
            clear h_lt
            rw [← HLT.out] at f2
            have hw1 : IntKind.i64.wrap (d0 + d1) = d0 + d1 := IntWalk.i64_in _ (by omega)
            have hw2 : IntKind.i64.wrap (m + 1) = m + 1 := IntWalk.i64_in _ (by omega)
            have hw4 : IntKind.i64.wrap m = m := IntWalk.i64_in _ (by omega)
            have hw5 : wrap64 (d0 + d1) = d0 + d1 := IntWalk.wrap64_in _ (by omega)
            have hw6 : wrap64 (m + 1) = m + 1 := IntWalk.wrap64_in _ (by omega)
            have hw3 : IntKind.i64.wrap (ua + ub) = un := by rw [f3]; rw [HU.out]; exact unc_wrap ys y d0 d1
            have hmt : (d0 + d1).tdiv 2 = m := by rw [hm]; rw [Int.tdiv_eq_ediv_of_nonneg (by omega)]
            have F1 := Lib.hid f1
            have F2 := Lib.hid f2
            have HM2 := Lib.hid hm
            clear f1 f2 f3 hm
            have hll : (lt != lt) = false := by simp
            go_wp2_with fail
            refine (implUncoveredDays_any A5 ys.length c5 ys y d0 m _ rfl HR5.out (by omega)).mono ?_
            rintro e w106 ⟨rfl, b⟩
            rw [← HUA.out, F1.out]
            have Bw106 := Lib.hid (Bw97.out.trans (b.mono Bw97.out.size))
            have HR1' := Lib.hid (HR1.out.below b)
            clear HR1
            have HR1 := HR1'
            clear HR1'
            have HR5' := Lib.hid (HR5.out.below b)
            clear HR5
            have HR5 := HR5'
            clear HR5'
            clear b
            go_wp2_with fail
            refine (implUncoveredDays_any A5 ys.length c5 ys y (m + 1) d1 _ rfl HR5.out (by omega)).mono ?_
            rintro e w107 ⟨rfl, b⟩
            rw [← HUB.out, F2.out]
            have Bw107 := Lib.hid (Bw106.out.trans (b.mono Bw106.out.size))
            have HR1' := Lib.hid (HR1.out.below b)
            clear HR1
            have HR1 := HR1'
            clear HR1'
            have HR5' := Lib.hid (HR5.out.below b)
            clear HR5
            have HR5 := HR5'
            clear HR5'
            clear b
            have hlt : decide (m < d1) = lt := HLT.out.symm
            go_wp2_with fail
            refine (D3.out _ (HY.out.below Bw107.out)).mono ?_
            rintro e w108 ⟨v6, us, u, at_, rfl, hl, b⟩
            have Bw108 := Lib.hid (Bw107.out.trans (b.mono Bw107.out.size))
            have HR1' := Lib.hid (HR1.out.below b)
            clear HR1
            have HR1 := HR1'
            clear HR1'
            obtain ⟨A6, c6, rfl, r6, h6, h6m⟩ := hl.form
            have hu := hl.len
            have HR6 := Lib.hid r6
            clear r6 hl b h6 h6m
            obtain ⟨cu, h_cu⟩ : ∃ cu, cu = covV us u at_ := ⟨_, rfl⟩
            have HCU := Lib.hid h_cu
            clear h_cu
            obtain ⟨kn, h_kn⟩ : ∃ kn, kn = covB us u at_ := ⟨_, rfl⟩
            have HKN := Lib.hid h_kn
            clear h_kn
            go_wp2_with fail
            refine (implCoverOn_any A6 us.length c6 us u at_ _ rfl HR6.out (by omega)).mono ?_
            rintro e w109 ⟨rfl, b⟩
            rw [← HCU.out, ← HKN.out]
            have Bw109 := Lib.hid (Bw108.out.trans (b.mono Bw108.out.size))
            have HR1' := Lib.hid (HR1.out.below b)
            clear HR1
            have HR1 := HR1'
            clear HR1'
            have HR6' := Lib.hid (HR6.out.below b)
            clear HR6
            have HR6 := HR6'
            clear HR6'
            clear b
            go_wp2_with fail
            refine (specCoverOn_any A6 us.length c6 us u at_ _ rfl HR6.out (by omega)).mono ?_
            rintro e w110 ⟨rfl, b⟩
            rw [← HCU.out, ← HKN.out]
            have Bw110 := Lib.hid (Bw109.out.trans (b.mono Bw109.out.size))
            have HR1' := Lib.hid (HR1.out.below b)
            clear HR1
            have HR1 := HR1'
            clear HR1'
            clear b
            go_wp2_with fail
            refine (D4.out _ (HY.out.below Bw110.out)).mono ?_
            rintro e w111 ⟨x, rfl, b⟩
            have Bw111 := Lib.hid (Bw110.out.trans (b.mono Bw110.out.size))
            have HR1' := Lib.hid (HR1.out.below b)
            clear HR1
            have HR1 := HR1'
            clear HR1'
            clear b
            go_wp2_with fail
            obtain ⟨wx, hwx⟩ : ∃ wx, wx = (w111.alloc (.cells #[.int .i64 x.a, .int .i64 x.b, .int .i64 x.c, .int .i64 x.d, .int .i64 x.e] 33)) := ⟨_, rfl⟩
            have KX : Hid (Blk wx w111.heap.size [.int .i64 x.a, .int .i64 x.b, .int .i64 x.c, .int .i64 x.d, .int .i64 x.e]) := Lib.hid (by rw [hwx]; exact Blk.new w111 _ _)
            have bx : Below w111.heap.size w111 wx := by rw [hwx]; exact (Below.refl _ _).alloc (Nat.le_refl _) _
            rw [← hwx]
            clear hwx
            have Bwx := Lib.hid (Bw111.out.trans (bx.mono Bw111.out.size))
            have HR1' := Lib.hid (HR1.out.below bx)
            clear HR1
            have HR1 := HR1'
            clear HR1'
            clear bx
            obtain ⟨sx, h_sx⟩ : ∃ sx, sx = itV x := ⟨_, rfl⟩
            have HSX := Lib.hid h_sx
            clear h_sx
            obtain ⟨gd, h_gd⟩ : ∃ gd, gd = insB x := ⟨_, rfl⟩
            have HGD := Lib.hid h_gd
            clear h_gd
            obtain ⟨cs, h_cs⟩ : ∃ cs, cs = costV xs := ⟨_, rfl⟩
            have HCS := Lib.hid h_cs
            clear h_cs
            obtain ⟨hs, h_hs⟩ : ∃ hs, hs = insL xs := ⟨_, rfl⟩
            have HHS := Lib.hid h_hs
            clear h_hs
            refine (implInsuredText_any x _ (fun w' h => HT.out w' (Bwx.out.trans (h.mono Bwx.out.size)))).mono ?_
            rintro e w112 ⟨rfl, b⟩
            rw [← HSX.out, ← HGD.out]
            have Bw112 := Lib.hid (Bwx.out.trans (b.mono Bwx.out.size))
            have HR1' := Lib.hid (HR1.out.below b)
            clear HR1
            have HR1 := HR1'
            clear HR1'
            have KX' := Lib.hid (KX.out.below b KX.out.lt)
            clear KX
            have KX := KX'
            clear KX'
            clear b
            have y0 := KX.out.cell 0 _ rfl
            have y1 := KX.out.cell 1 _ rfl
            have y2 := KX.out.cell 2 _ rfl
            have y3 := KX.out.cell 3 _ rfl
            have y4 := KX.out.cell 4 _ rfl
            go_wp2_with fail
            clear y0 y1 y2 y3 y4
            refine (specInsuredText_any x _).mono ?_
            rintro e w113 ⟨rfl, b⟩
            rw [← HSX.out, ← HGD.out]
            have Bw113 := Lib.hid (Bw112.out.trans (b.mono Bw112.out.size))
            have HR1' := Lib.hid (HR1.out.below b)
            clear HR1
            have HR1 := HR1'
            clear HR1'
            clear b KX
            go_wp2_with fail
            refine (implCostOfAll_any A1 xs.length c1 xs _ rfl HR1.out (by omega)).mono ?_
            rintro e w114 ⟨rfl, b⟩
            rw [← HCS.out, ← HHS.out]
            have Bw114 := Lib.hid (Bw113.out.trans (b.mono Bw113.out.size))
            have HR1' := Lib.hid (HR1.out.below b)
            clear HR1
            have HR1 := HR1'
            clear HR1'
            clear b
            go_wp2_with fail
            refine (specCostOfAll_any A1 xs.length c1 xs _ rfl HR1.out (by omega)).mono ?_
            rintro e w115 ⟨rfl, b⟩
            rw [← HCS.out, ← HHS.out]
            have Bw115 := Lib.hid (Bw114.out.trans (b.mono Bw114.out.size))
            have HR1' := Lib.hid (HR1.out.below b)
            clear HR1
            have HR1 := HR1'
            clear HR1'
            clear b
            go_wp2
            go_ret
            exact ⟨by first | rfl | simp, Bw115.out⟩
    | true =>
      go_wp2_with fail
      go_loopw [19, 20, 21] (fun i _ _ wr => ∃ t : Nat, i = .int .i64 t ∧ t ≤ xs.length ∧ Below w73.heap.size w73 wr) (fun i _ _ _ => xs.length - (intOf i).toNat)
      case atStart => exact ⟨0, rfl, by omega, Below.refl _ _⟩
      case round =>
        obtain ⟨t, rfl, ht, hbw⟩ := hrel
        have HBW := Lib.hid hbw
        have hsw := hbw.size
        clear hbw
        by_cases htl : t < xs.length
        · have htl' : (t : Int) < (xs.length : Int) := by omega
          obtain ⟨z, ez⟩ : ∃ z, xs[t]? = some z := ⟨_, List.getElem?_eq_getElem htl⟩
          have hzm : z ∈ xs := List.mem_of_getElem? ez
          obtain ⟨g0, -, -, -, g3⟩ := gc_facts (gc_true HF.out.symm)
          have hzb := insB_bd (insL_mem g0 hzm)
          obtain ⟨g4, g5⟩ := g3 z.c (by omega)
          rw [← HM.out] at g5
          have HRw := Lib.hid (HR1.out.below HBW.out)
          obtain ⟨cv, hcv⟩ : ∃ cv, cv = covV xs item z.c := ⟨_, rfl⟩
          rw [← hcv] at g5
          have HCV := Lib.hid hcv
          have G4 := Lib.hid g4
          have g6 : decide (most < cv) = false := by simp; omega
          have ht0 : (0 : Int) ≤ (t : Int) := by omega
          obtain ⟨gz, oz, eAz, hgz, cz, cz1, cz2, cz3, cz4⟩ := HRw.out.at5 ez
          subst eAz
          clear g0 g3 g4 hcv hzm hzb ez
          go_wp2_with fail
          refine (implCoverOn_any _ xs.length c1 xs item z.c _ rfl HRw.out (by omega)).mono ?_
          rintro e wb ⟨rfl, b⟩
          rw [← HCV.out, G4.out]
          have HBC := Lib.hid (HBW.out.trans (b.mono HBW.out.size))
          clear b cz cz1 cz2 cz3 cz4
          go_wp2
          go_roundw
          case rel => exact ⟨t + 1, by go_num, by omega, HBC.out⟩
          case measure => simp [intOf]; omega
        · obtain rfl : t = xs.length := by omega
          have Bwr := Lib.hid (Bw73.out.trans (HBW.out.mono Bw73.out.size))
          have HR1' := Lib.hid (HR1.out.below HBW.out)
          clear HR1
          have HR1 := HR1'
          clear HR1'
          obtain ⟨-, -, g1, g2, -⟩ := gc_facts (gc_true HF.out.symm)
          rw [← HD.out, ← HM.out] at g2
          rw [← HD.out] at g1
          have G1 := Lib.hid g1
          have G2 := Lib.hid g2
          clear g1 g2
          go_wp2_with fail
          refine (implCoverOn_any A1 xs.length c1 xs item day _ rfl HR1.out (by omega)).mono ?_
          rintro e w116 ⟨rfl, b⟩
          rw [G2.out, G1.out]
          have Bw116 := Lib.hid (Bwr.out.trans (b.mono Bwr.out.size))
          have HR1' := Lib.hid (HR1.out.below b)
          clear HR1
          have HR1 := HR1'
          clear HR1'
          clear b
          go_wp2_with fail
          refine (D2.out _ (HY.out.below Bw116.out)).mono ?_
          rintro e w117 ⟨v5, ys, y, d0, d1, rfl, hl, b⟩
          have Bw117 := Lib.hid (Bw116.out.trans (b.mono Bw116.out.size))
          have HR1' := Lib.hid (HR1.out.below b)
          clear HR1
          have HR1 := HR1'
          clear HR1'
          obtain ⟨A5, c5, rfl, r5, h5, h5m⟩ := hl.form
          have hy := hl.len
          have HR5 := Lib.hid r5
          clear r5 hl b h5 h5m
          obtain ⟨un, h_un⟩ : ∃ un, un = uncV ys y d0 d1 := ⟨_, rfl⟩
          have HU := Lib.hid h_un
          clear h_un
          obtain ⟨told, h_told⟩ : ∃ told, told = uncB ys y d0 d1 := ⟨_, rfl⟩
          have HTD := Lib.hid h_told
          clear h_told
          have huu : (un != un) = false := by simp
          go_wp2_with fail
          refine (implUncoveredDays_any A5 ys.length c5 ys y d0 d1 _ rfl HR5.out (by omega)).mono ?_
          rintro e w118 ⟨rfl, b⟩
          rw [← HU.out, ← HTD.out]
          have Bw118 := Lib.hid (Bw117.out.trans (b.mono Bw117.out.size))
          have HR1' := Lib.hid (HR1.out.below b)
          clear HR1
          have HR1 := HR1'
          clear HR1'
          have HR5' := Lib.hid (HR5.out.below b)
          clear HR5
          have HR5 := HR5'
          clear HR5'
          clear b
          go_wp2_with fail
          refine (specUncoveredDays_any A5 ys.length c5 ys y d0 d1 _ rfl HR5.out (by omega)).mono ?_
          rintro e w119 ⟨rfl, b⟩
          rw [← HU.out, ← HTD.out]
          have Bw119 := Lib.hid (Bw118.out.trans (b.mono Bw118.out.size))
          have HR1' := Lib.hid (HR1.out.below b)
          clear HR1
          have HR1 := HR1'
          clear HR1'
          have HR5' := Lib.hid (HR5.out.below b)
          clear HR5
          have HR5 := HR5'
          clear HR5'
          clear b
          cases told with
          | false =>
            go_wp2_with fail
            refine (D3.out _ (HY.out.below Bw119.out)).mono ?_
            rintro e w120 ⟨v6, us, u, at_, rfl, hl, b⟩
            have Bw120 := Lib.hid (Bw119.out.trans (b.mono Bw119.out.size))
            have HR1' := Lib.hid (HR1.out.below b)
            clear HR1
            have HR1 := HR1'
            clear HR1'
            obtain ⟨A6, c6, rfl, r6, h6, h6m⟩ := hl.form
            have hu := hl.len
            have HR6 := Lib.hid r6
            clear r6 hl b h6 h6m
            obtain ⟨cu, h_cu⟩ : ∃ cu, cu = covV us u at_ := ⟨_, rfl⟩
            have HCU := Lib.hid h_cu
            clear h_cu
            obtain ⟨kn, h_kn⟩ : ∃ kn, kn = covB us u at_ := ⟨_, rfl⟩
            have HKN := Lib.hid h_kn
            clear h_kn
            go_wp2_with fail
            refine (implCoverOn_any A6 us.length c6 us u at_ _ rfl HR6.out (by omega)).mono ?_
            rintro e w121 ⟨rfl, b⟩
            rw [← HCU.out, ← HKN.out]
            have Bw121 := Lib.hid (Bw120.out.trans (b.mono Bw120.out.size))
            have HR1' := Lib.hid (HR1.out.below b)
            clear HR1
            have HR1 := HR1'
            clear HR1'
            have HR6' := Lib.hid (HR6.out.below b)
            clear HR6
            have HR6 := HR6'
            clear HR6'
            clear b
            go_wp2_with fail
            refine (specCoverOn_any A6 us.length c6 us u at_ _ rfl HR6.out (by omega)).mono ?_
            rintro e w122 ⟨rfl, b⟩
            rw [← HCU.out, ← HKN.out]
            have Bw122 := Lib.hid (Bw121.out.trans (b.mono Bw121.out.size))
            have HR1' := Lib.hid (HR1.out.below b)
            clear HR1
            have HR1 := HR1'
            clear HR1'
            clear b
            go_wp2_with fail
            refine (D4.out _ (HY.out.below Bw122.out)).mono ?_
            rintro e w123 ⟨x, rfl, b⟩
            have Bw123 := Lib.hid (Bw122.out.trans (b.mono Bw122.out.size))
            have HR1' := Lib.hid (HR1.out.below b)
            clear HR1
            have HR1 := HR1'
            clear HR1'
            clear b
            go_wp2_with fail
            obtain ⟨wx, hwx⟩ : ∃ wx, wx = (w123.alloc (.cells #[.int .i64 x.a, .int .i64 x.b, .int .i64 x.c, .int .i64 x.d, .int .i64 x.e] 33)) := ⟨_, rfl⟩
            have KX : Hid (Blk wx w123.heap.size [.int .i64 x.a, .int .i64 x.b, .int .i64 x.c, .int .i64 x.d, .int .i64 x.e]) := Lib.hid (by rw [hwx]; exact Blk.new w123 _ _)
            have bx : Below w123.heap.size w123 wx := by rw [hwx]; exact (Below.refl _ _).alloc (Nat.le_refl _) _
            rw [← hwx]
            clear hwx
            have Bwx := Lib.hid (Bw123.out.trans (bx.mono Bw123.out.size))
            have HR1' := Lib.hid (HR1.out.below bx)
            clear HR1
            have HR1 := HR1'
            clear HR1'
            clear bx
            obtain ⟨sx, h_sx⟩ : ∃ sx, sx = itV x := ⟨_, rfl⟩
            have HSX := Lib.hid h_sx
            clear h_sx
            obtain ⟨gd, h_gd⟩ : ∃ gd, gd = insB x := ⟨_, rfl⟩
            have HGD := Lib.hid h_gd
            clear h_gd
            obtain ⟨cs, h_cs⟩ : ∃ cs, cs = costV xs := ⟨_, rfl⟩
            have HCS := Lib.hid h_cs
            clear h_cs
            obtain ⟨hs, h_hs⟩ : ∃ hs, hs = insL xs := ⟨_, rfl⟩
            have HHS := Lib.hid h_hs
            clear h_hs
            refine (implInsuredText_any x _ (fun w' h => HT.out w' (Bwx.out.trans (h.mono Bwx.out.size)))).mono ?_
            rintro e w124 ⟨rfl, b⟩
            rw [← HSX.out, ← HGD.out]
            have Bw124 := Lib.hid (Bwx.out.trans (b.mono Bwx.out.size))
            have HR1' := Lib.hid (HR1.out.below b)
            clear HR1
            have HR1 := HR1'
            clear HR1'
            have KX' := Lib.hid (KX.out.below b KX.out.lt)
            clear KX
            have KX := KX'
            clear KX'
            clear b
            have y0 := KX.out.cell 0 _ rfl
            have y1 := KX.out.cell 1 _ rfl
            have y2 := KX.out.cell 2 _ rfl
            have y3 := KX.out.cell 3 _ rfl
            have y4 := KX.out.cell 4 _ rfl
            go_wp2_with fail
            clear y0 y1 y2 y3 y4
            refine (specInsuredText_any x _).mono ?_
            rintro e w125 ⟨rfl, b⟩
            rw [← HSX.out, ← HGD.out]
            have Bw125 := Lib.hid (Bw124.out.trans (b.mono Bw124.out.size))
            have HR1' := Lib.hid (HR1.out.below b)
            clear HR1
            have HR1 := HR1'
            clear HR1'
            clear b KX
            go_wp2_with fail
            refine (implCostOfAll_any A1 xs.length c1 xs _ rfl HR1.out (by omega)).mono ?_
            rintro e w126 ⟨rfl, b⟩
            rw [← HCS.out, ← HHS.out]
            have Bw126 := Lib.hid (Bw125.out.trans (b.mono Bw125.out.size))
            have HR1' := Lib.hid (HR1.out.below b)
            clear HR1
            have HR1 := HR1'
            clear HR1'
            clear b
            go_wp2_with fail
            refine (specCostOfAll_any A1 xs.length c1 xs _ rfl HR1.out (by omega)).mono ?_
            rintro e w127 ⟨rfl, b⟩
            rw [← HCS.out, ← HHS.out]
            have Bw127 := Lib.hid (Bw126.out.trans (b.mono Bw126.out.size))
            have HR1' := Lib.hid (HR1.out.below b)
            clear HR1
            have HR1 := HR1'
            clear HR1'
            clear b
            go_wp2
            go_ret
            exact ⟨by first | rfl | simp, Bw127.out⟩
          | true =>
            obtain ⟨m, hm⟩ : ∃ m, m = (d0 + d1) / 2 := ⟨_, rfl⟩
            obtain ⟨f1, f2, f3, f4, f5, f6, f7⟩ := unc_split HTD.out.symm hm
            rw [← HU.out] at f3
            obtain ⟨ua, h_ua⟩ : ∃ ua, ua = uncV ys y d0 m := ⟨_, rfl⟩
            have HUA := Lib.hid h_ua
            clear h_ua
            obtain ⟨ub, h_ub⟩ : ∃ ub, ub = uncV ys y (m + 1) d1 := ⟨_, rfl⟩
            have HUB := Lib.hid h_ub
            clear h_ub
            rw [← HUA.out, ← HUB.out] at f3
            obtain ⟨lt, h_lt⟩ : ∃ lt, lt = decide (m < d1) := ⟨_, rfl⟩
            have HLT := Lib.hid h_lt
            clear h_lt
            rw [← HLT.out] at f2
            have hw1 : IntKind.i64.wrap (d0 + d1) = d0 + d1 := IntWalk.i64_in _ (by omega)
            have hw2 : IntKind.i64.wrap (m + 1) = m + 1 := IntWalk.i64_in _ (by omega)
            have hw4 : IntKind.i64.wrap m = m := IntWalk.i64_in _ (by omega)
            have hw5 : wrap64 (d0 + d1) = d0 + d1 := IntWalk.wrap64_in _ (by omega)
            have hw6 : wrap64 (m + 1) = m + 1 := IntWalk.wrap64_in _ (by omega)
            have hw3 : IntKind.i64.wrap (ua + ub) = un := by rw [f3]; rw [HU.out]; exact unc_wrap ys y d0 d1
            have hmt : (d0 + d1).tdiv 2 = m := by rw [hm]; rw [Int.tdiv_eq_ediv_of_nonneg (by omega)]
            have F1 := Lib.hid f1
            have F2 := Lib.hid f2
            have HM2 := Lib.hid hm
            clear f1 f2 f3 hm
            have hll : (lt != lt) = false := by simp
            go_wp2_with fail
            refine (implUncoveredDays_any A5 ys.length c5 ys y d0 m _ rfl HR5.out (by omega)).mono ?_
            rintro e w128 ⟨rfl, b⟩
            rw [← HUA.out, F1.out]
            have Bw128 := Lib.hid (Bw119.out.trans (b.mono Bw119.out.size))
            have HR1' := Lib.hid (HR1.out.below b)
            clear HR1
            have HR1 := HR1'
            clear HR1'
            have HR5' := Lib.hid (HR5.out.below b)
            clear HR5
            have HR5 := HR5'
            clear HR5'
            clear b
            go_wp2_with fail
            refine (implUncoveredDays_any A5 ys.length c5 ys y (m + 1) d1 _ rfl HR5.out (by omega)).mono ?_
            rintro e w129 ⟨rfl, b⟩
            rw [← HUB.out, F2.out]
            have Bw129 := Lib.hid (Bw128.out.trans (b.mono Bw128.out.size))
            have HR1' := Lib.hid (HR1.out.below b)
            clear HR1
            have HR1 := HR1'
            clear HR1'
            have HR5' := Lib.hid (HR5.out.below b)
            clear HR5
            have HR5 := HR5'
            clear HR5'
            clear b
            have hlt : decide (m < d1) = lt := HLT.out.symm
            go_wp2_with fail
            refine (D3.out _ (HY.out.below Bw129.out)).mono ?_
            rintro e w130 ⟨v6, us, u, at_, rfl, hl, b⟩
            have Bw130 := Lib.hid (Bw129.out.trans (b.mono Bw129.out.size))
            have HR1' := Lib.hid (HR1.out.below b)
            clear HR1
            have HR1 := HR1'
            clear HR1'
            obtain ⟨A6, c6, rfl, r6, h6, h6m⟩ := hl.form
            have hu := hl.len
            have HR6 := Lib.hid r6
            clear r6 hl b h6 h6m
            obtain ⟨cu, h_cu⟩ : ∃ cu, cu = covV us u at_ := ⟨_, rfl⟩
            have HCU := Lib.hid h_cu
            clear h_cu
            obtain ⟨kn, h_kn⟩ : ∃ kn, kn = covB us u at_ := ⟨_, rfl⟩
            have HKN := Lib.hid h_kn
            clear h_kn
            go_wp2_with fail
            refine (implCoverOn_any A6 us.length c6 us u at_ _ rfl HR6.out (by omega)).mono ?_
            rintro e w131 ⟨rfl, b⟩
            rw [← HCU.out, ← HKN.out]
            have Bw131 := Lib.hid (Bw130.out.trans (b.mono Bw130.out.size))
            have HR1' := Lib.hid (HR1.out.below b)
            clear HR1
            have HR1 := HR1'
            clear HR1'
            have HR6' := Lib.hid (HR6.out.below b)
            clear HR6
            have HR6 := HR6'
            clear HR6'
            clear b
            go_wp2_with fail
            refine (specCoverOn_any A6 us.length c6 us u at_ _ rfl HR6.out (by omega)).mono ?_
            rintro e w132 ⟨rfl, b⟩
            rw [← HCU.out, ← HKN.out]
            have Bw132 := Lib.hid (Bw131.out.trans (b.mono Bw131.out.size))
            have HR1' := Lib.hid (HR1.out.below b)
            clear HR1
            have HR1 := HR1'
            clear HR1'
            clear b
            go_wp2_with fail
            refine (D4.out _ (HY.out.below Bw132.out)).mono ?_
            rintro e w133 ⟨x, rfl, b⟩
            have Bw133 := Lib.hid (Bw132.out.trans (b.mono Bw132.out.size))
            have HR1' := Lib.hid (HR1.out.below b)
            clear HR1
            have HR1 := HR1'
            clear HR1'
            clear b
            go_wp2_with fail
            obtain ⟨wx, hwx⟩ : ∃ wx, wx = (w133.alloc (.cells #[.int .i64 x.a, .int .i64 x.b, .int .i64 x.c, .int .i64 x.d, .int .i64 x.e] 33)) := ⟨_, rfl⟩
            have KX : Hid (Blk wx w133.heap.size [.int .i64 x.a, .int .i64 x.b, .int .i64 x.c, .int .i64 x.d, .int .i64 x.e]) := Lib.hid (by rw [hwx]; exact Blk.new w133 _ _)
            have bx : Below w133.heap.size w133 wx := by rw [hwx]; exact (Below.refl _ _).alloc (Nat.le_refl _) _
            rw [← hwx]
            clear hwx
            have Bwx := Lib.hid (Bw133.out.trans (bx.mono Bw133.out.size))
            have HR1' := Lib.hid (HR1.out.below bx)
            clear HR1
            have HR1 := HR1'
            clear HR1'
            clear bx
            obtain ⟨sx, h_sx⟩ : ∃ sx, sx = itV x := ⟨_, rfl⟩
            have HSX := Lib.hid h_sx
            clear h_sx
            obtain ⟨gd, h_gd⟩ : ∃ gd, gd = insB x := ⟨_, rfl⟩
            have HGD := Lib.hid h_gd
            clear h_gd
            obtain ⟨cs, h_cs⟩ : ∃ cs, cs = costV xs := ⟨_, rfl⟩
            have HCS := Lib.hid h_cs
            clear h_cs
            obtain ⟨hs, h_hs⟩ : ∃ hs, hs = insL xs := ⟨_, rfl⟩
            have HHS := Lib.hid h_hs
            clear h_hs
            refine (implInsuredText_any x _ (fun w' h => HT.out w' (Bwx.out.trans (h.mono Bwx.out.size)))).mono ?_
            rintro e w134 ⟨rfl, b⟩
            rw [← HSX.out, ← HGD.out]
            have Bw134 := Lib.hid (Bwx.out.trans (b.mono Bwx.out.size))
            have HR1' := Lib.hid (HR1.out.below b)
            clear HR1
            have HR1 := HR1'
            clear HR1'
            have KX' := Lib.hid (KX.out.below b KX.out.lt)
            clear KX
            have KX := KX'
            clear KX'
            clear b
            have y0 := KX.out.cell 0 _ rfl
            have y1 := KX.out.cell 1 _ rfl
            have y2 := KX.out.cell 2 _ rfl
            have y3 := KX.out.cell 3 _ rfl
            have y4 := KX.out.cell 4 _ rfl
            go_wp2_with fail
            clear y0 y1 y2 y3 y4
            refine (specInsuredText_any x _).mono ?_
            rintro e w135 ⟨rfl, b⟩
            rw [← HSX.out, ← HGD.out]
            have Bw135 := Lib.hid (Bw134.out.trans (b.mono Bw134.out.size))
            have HR1' := Lib.hid (HR1.out.below b)
            clear HR1
            have HR1 := HR1'
            clear HR1'
            clear b KX
            go_wp2_with fail
            refine (implCostOfAll_any A1 xs.length c1 xs _ rfl HR1.out (by omega)).mono ?_
            rintro e w136 ⟨rfl, b⟩
            rw [← HCS.out, ← HHS.out]
            have Bw136 := Lib.hid (Bw135.out.trans (b.mono Bw135.out.size))
            have HR1' := Lib.hid (HR1.out.below b)
            clear HR1
            have HR1 := HR1'
            clear HR1'
            clear b
            go_wp2_with fail
            refine (specCostOfAll_any A1 xs.length c1 xs _ rfl HR1.out (by omega)).mono ?_
            rintro e w137 ⟨rfl, b⟩
            rw [← HCS.out, ← HHS.out]
            have Bw137 := Lib.hid (Bw136.out.trans (b.mono Bw136.out.size))
            have HR1' := Lib.hid (HR1.out.below b)
            clear HR1
            have HR1 := HR1'
            clear HR1'
            clear b
            go_wp2
            go_ret
            exact ⟨by first | rfl | simp, Bw137.out⟩

theorem own : ownKnob Tryd.prog.godebug = none := by kernel_rfl
theorem laidOut : laidOutB Tryd.prog = true := by kernel_rfl
set_option maxRecDepth 100000 in
theorem lifted (os : Os) (started : os.Started) (H : Type) (enc : TypeId × Value → H) :
    ReturnsInHanded {} Tryd.checked os 3 .any (fun w args => (Rows.fnGapsSpec.pre enc Tryd.prog Tryd.f3 [] false w args ∧ laidMetH Tryd.prog Rows.fnGapsRow.laid w) ∧ sizedMet enc Tryd.prog Tryd.f3 (OpenSpec.ofChange Rows.fnGapsSpec) false w args)
      (Rows.fnGapsSpec.post enc Tryd.prog Tryd.f3 false true false false) := by
  refine returnsInHanded_of_change_and (C := Tryd.checked) (X := fun w _ => laidMetH Tryd.prog Rows.fnGapsRow.laid w) (fun _ _ _ hh h => h.of_heap hh) own started (by kernel_rfl) Tryd.func3
    (ChangeSpec.witness_shaped (enc := enc) (C := Tryd.checked) (os := os) (X := fun w _ => laidMetH Tryd.prog Rows.fnGapsRow.laid w) false (World.doorLaid Tryd.prog 24 os) #[.slice none 0 0] 8 rfl (World.shaped_of_RefB (by kernel_rfl) (by kernel_rfl)) (by kernel_rfl) (by kernel_rfl) (by kernel_rfl) (door_met os _)) ?_
  intro W base args ds gs before hval0 hW _ _ hL _
  have hval : ∀ (j : Nat) t v, Tryd.f3.params[j]? = some t → args[j]? = some v → Value.okWide Tryd.prog W .any base t v := hval0
  have hW' := hW
  obtain ⟨p, q, hA0, hV, rfl, hfz, hnd⟩ := hW
  have hA : DataW.TrodAll enc Tryd.prog W 0 (fun _ => true) true Tryd.f3.params.toList args.toList ds p := hA0
  rw [Tryd.params3] at hA hval
  obtain ⟨v0, vs0, d0, ds0, p0, q0, hargs, rfl, rfl, h0, r0⟩ := trodAll_cons hA
  obtain ⟨rfl, rfl, rfl⟩ := trodAll_nil r0
  obtain rfl : args = #[v0] := by cases args; simp_all
  obtain ⟨rfl, rfl⟩ := trodVars_none hV
  obtain ⟨a0, len0, cap0, rfl⟩ := okWide_slice Tryd.underlying22 (hval 0 22 v0 rfl rfl)
  have k0 := h0
  have lt0 : ∀ x ∈ p0, x.block < W.heap.size := by obtain ⟨m, hm⟩ := k0; exact DataW.trod_lt m _ _ _ hm
  obtain ⟨zs, hl0, hr0, hm0, hb0⟩ := openU Tryd.underlying22 Tryd.underlying5 (by kernel_rfl) h0
  clear hA0 hval0
  refine (walk a0 len0 cap0 zs W hl0 hr0 hm0 hb0 (tab_below hL)).mono fun e W' ⟨he, bel⟩ => ?_
  subst he
  exact ⟨_, rfl, _, _, _, [], _, [], hW', trodAll_mk1 (shut_bool Tryd.underlying4 _), (trodAll_cons_mk (Below.trod laidOut (by kernel_rfl) (of_decide_eq_true (by kernel_rfl)) k0 bel lt0) trodAll_mk0), rfl, bel.frame _, fun h => by cases h⟩

theorem over : Rows.fnGapsRow.holds Tryd.pinned (OpenSpec.ofChange Rows.fnGapsSpec) :=
  OpenClaim.holds_of_wide 3 Tryd.f3 rfl rfl rfl rfl rfl rfl rfl ⟨rfl, rfl, rfl, rfl, rfl⟩ rfl rfl rfl rfl rfl (by kernel_rfl) Tryd.func3 (by kernel_rfl)
    (of_decide_eq_true (by kernel_rfl)) (by unfold Func.isWrapper; first | (rw [if_pos (by decide +kernel)]; kernel_rfl) | (rw [if_neg (by decide +kernel)]; exact ⟨rfl, rfl⟩))
    (fun os started H enc _ => lifted os started H enc)

theorem proved : Rows.FnGapsCardSaid :=
  Claim7.holds_tied_plain_at .later [] [.data, .data, .data] true Rows.fnGapsCard.stood.harness false
    over (fun _ h => by cases h) (by kernel_rfl) (fun _ h => by cases h) fnGaps_row_tie rfl ⟨rfl, rfl⟩ (by kernel_rfl) rfl
    (fun f fn hf hfn => by
      obtain rfl : f = 3 := Option.some.inj ((show Tryd.prog.funcNamed "loop.example/g01062/laws.FnGaps" = some 3 by kernel_rfl).symm.trans hf) |>.symm
      obtain rfl : fn = Tryd.f3 := (Option.some.inj (Tryd.func3.symm.trans hfn)).symm
      exact ⟨by kernel_rfl, fun j t ht => by
        rw [Tryd.params3] at ht
        have hm : t ∈ [22] := by simpa using Array.mem_of_getElem? ht
        have hall : ([22].all fun u => !Tryd.prog.wantsStandIn u) = true := by kernel_rfl
        exact (show Tryd.prog.wantsStandIn t = false by simpa using List.all_eq_true.1 hall t hm)⟩)
    (by kernel_rfl)
#print axioms proved
end Go.Proofs.YtiafiehglfmjaaaDoor.ltFnGaps
