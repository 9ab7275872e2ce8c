/- The law FnCoverLists returns true for every input: as many covers are true as have no fault, the counts add up to the list, and of those with a route to an office just these go by way of it; what the program and the reference answer is the same. No conditions. -/
import Derived.Test.YtobloedpmjkgpaaCvD7
import Derived.Test.YtobloedpmjkgpaaCvE4
import Derived.Test.YtobloedpmjkgpaaCvQ
import Derived.Test.YtobloedpmjkgpaaCvT
import Derived.Test.YtobloedpmjkgpaaCvM
import Derived.Test.YtobloedpmjkgpaaCvMi
import Derived.Test.YtobloedpmjkgpaaCvC
import Derived.Test.YtobloedpmjkgpaaCvCi
import Derived.Test.YtobloedpmjkgpaaCvN
import Derived.Test.YtobloedpmjkgpaaCvNi
import Derived.Test.YtobloedpmjkgpaaCvO
namespace Go.Proofs.Ytobloedpmjkgpaa.lwFnCoverLists
set_option linter.unusedSimpArgs false
open Go.ChangeShapes Go.WideShapes Go.ChangeAt Go.RowKit
set_option linter.unusedVariables false

set_option maxRecDepth 20000 in
set_option maxHeartbeats 16000000 in
theorem walk (B : Option Addr) (n c : Nat) (zs : List Int) (w : World) (hn : zs.length = n) (hB : Rd w B (cellsU zs)) (hm : n ≤ maxLen) (hb : ∀ z ∈ zs, 0 ≤ z ∧ z ≤ 255) :
    Calls Try.prog 3 #[.slice B n c] w (Ret (.bool true) w) := by
  have CB := Lib.hid (fun w => vBig_any B n c w hm)
  have hrep : RepOK := repeat10_any
  by_cases hbig : (65536 : Int) < n
  · rw [show decide ((65536 : Int) < n) = true by simp; omega] at CB
    clear hbig hn
    go_enter Try.func3, Try.ntmps3
    go_wp2_with fail
    refine (CB.out _).mono ?_
    rintro e w1 ⟨rfl, rfl⟩
    go_wp2
    go_ret
    exact ⟨rfl, Below.refl _ _⟩
  rw [show decide ((65536 : Int) < n) = false by simp; omega] at CB
  have HY : Hid (Bytes w B zs) := Lib.hid ⟨hB, hb, by omega⟩
  have HN := Lib.hid hn
  have HREP := Lib.hid hrep
  clear hbig hn hB hm hb hrep
  have D1 := Lib.hid (fun w h => drawTrueCovers_any B n c zs w HN.out h)
  have D2 := Lib.hid (fun w h => drawCoversVia_any B n c zs w HN.out h)
  go_enter Try.func3, Try.ntmps3
  go_wp2_with fail
  refine (CB.out _).mono ?_
  rintro e w0 ⟨rfl, rfl⟩
  have HB0 := Lib.hid (Below.refl w.heap.size w)
  go_wp2_with fail
  refine (D1.out _ (HY.out)).mono ?_
  rintro e w1 ⟨v1, v2, v3, rs, ms, xs, rfl, ⟨⟨A1, c1, rfl, r1, -, -⟩, hl1⟩, ⟨⟨A2, c2, rfl, r2, -, -⟩, hl2⟩, ⟨⟨A3, c3, rfl, r3, -, -⟩, hl3⟩, hsm, b⟩
  have Bw1 := Lib.hid (HB0.out.trans (b.mono HB0.out.size))
  have HR1 := Lib.hid r1
  have HR2 := Lib.hid r2
  have HR3 := Lib.hid r3
  have HSM1 := Lib.hid hsm
  clear r1 r2 r3 hsm b
  obtain ⟨ok, h_ok⟩ : ∃ ok, ok = tcB rs ms xs := ⟨_, rfl⟩
  have HOK := Lib.hid h_ok
  clear h_ok
  obtain ⟨TC, h_TC⟩ : ∃ TC, TC = tcV rs ms xs := ⟨_, rfl⟩
  have HTC := Lib.hid h_TC
  clear h_TC
  have hTCn : TC.length ≤ 1048576 := by rw [HTC.out]; have := tcV_len rs ms xs; omega
  go_wp2_with fail
  refine (implTrueCovers_any HREP.out A1 rs.length c1 rs A2 ms.length c2 ms A3 xs.length c3 xs _ rfl HR1.out rfl HR2.out rfl HR3.out (by omega) (by omega) (by omega) HSM1.out).mono ?_
  rintro e w2 ⟨v4, rfl, o, b⟩
  rw [← HOK.out]
  rw [← HTC.out] at o
  obtain ⟨A4, c4, rfl⟩ := own_form o
  have Bw2 := Lib.hid (Bw1.out.trans (b.mono Bw1.out.size))
  have HR1' := Lib.hid (HR1.out.below b)
  clear HR1
  have HR1 := HR1'
  clear HR1'
  have HR2' := Lib.hid (HR2.out.below b)
  clear HR2
  have HR2 := HR2'
  clear HR2'
  have HR3' := Lib.hid (HR3.out.below b)
  clear HR3
  have HR3 := HR3'
  clear HR3'
  have HI4 := Lib.hid (Rd.of_own o)
  clear o b
  go_wp2_with fail
  refine (specTrueCovers_any A1 rs.length c1 rs A2 ms.length c2 ms A3 xs.length c3 xs _ rfl HR1.out rfl HR2.out rfl HR3.out (by omega) (by omega) (by omega) HSM1.out).mono ?_
  rintro e w3 ⟨v5, rfl, o, b⟩
  rw [← HOK.out]
  rw [← HTC.out] at o
  obtain ⟨A5, c5, rfl⟩ := own_form o
  have Bw3 := Lib.hid (Bw2.out.trans (b.mono Bw2.out.size))
  have HR1' := Lib.hid (HR1.out.below b)
  clear HR1
  have HR1 := HR1'
  clear HR1'
  have HR2' := Lib.hid (HR2.out.below b)
  clear HR2
  have HR2 := HR2'
  clear HR2'
  have HR3' := Lib.hid (HR3.out.below b)
  clear HR3
  have HR3 := HR3'
  clear HR3'
  have HI4' := Lib.hid (HI4.out.below b)
  clear HI4
  have HI4 := HI4'
  clear HI4'
  have HI5 := Lib.hid (Rd.of_own o)
  clear o b
  go_wp2_with fail
  refine (vInts_same _ _ _ _ _ TC _ rfl HI4.out HI5.out hTCn).mono ?_
  rintro e w4 ⟨rfl, b⟩
  have Bw4 := Lib.hid (Bw3.out.trans (b.mono Bw3.out.size))
  have HR1' := Lib.hid (HR1.out.below b)
  clear HR1
  have HR1 := HR1'
  clear HR1'
  have HR2' := Lib.hid (HR2.out.below b)
  clear HR2
  have HR2 := HR2'
  clear HR2'
  have HR3' := Lib.hid (HR3.out.below b)
  clear HR3
  have HR3 := HR3'
  clear HR3'
  clear b
  obtain ⟨gd, h_gd⟩ : ∃ gd, gd = cvL xs := ⟨_, rfl⟩
  have HGD := Lib.hid h_gd
  clear h_gd
  go_wp2_with fail
  refine (implAreCovers_any A3 xs.length c3 xs _ rfl HR3.out (by omega)).mono ?_
  rintro e w5 ⟨rfl, b⟩
  rw [← HGD.out]
  have Bw5 := Lib.hid (Bw4.out.trans (b.mono Bw4.out.size))
  have HR1' := Lib.hid (HR1.out.below b)
  clear HR1
  have HR1 := HR1'
  clear HR1'
  have HR2' := Lib.hid (HR2.out.below b)
  clear HR2
  have HR2 := HR2'
  clear HR2'
  have HR3' := Lib.hid (HR3.out.below b)
  clear HR3
  have HR3 := HR3'
  clear HR3'
  clear b
  go_wp2_with fail
  refine (specAreCovers_any A3 xs.length c3 xs _ rfl HR3.out (by omega)).mono ?_
  rintro e w6 ⟨rfl, b⟩
  rw [← HGD.out]
  have Bw6 := Lib.hid (Bw5.out.trans (b.mono Bw5.out.size))
  have HR1' := Lib.hid (HR1.out.below b)
  clear HR1
  have HR1 := HR1'
  clear HR1'
  have HR2' := Lib.hid (HR2.out.below b)
  clear HR2
  have HR2 := HR2'
  clear HR2'
  have HR3' := Lib.hid (HR3.out.below b)
  clear HR3
  have HR3 := HR3'
  clear HR3'
  clear b
  obtain ⟨z0, z1, z2, z3, z4, z5, hz⟩ := list6 (fcV_len rs ms xs)
  have hzb := fcV_bd rs ms xs
  rw [hz] at hzb
  have HZ := Lib.hid hz
  simp only [List.mem_cons, List.not_mem_nil, or_false, forall_eq_or_imp, forall_eq] at hzb
  obtain ⟨zb0, zb1, zb2, zb3, zb4, zb5⟩ := hzb
  clear hz
  have HAR : Hid (arr6 (fcV rs ms xs) = .agg #[.int .i64 z0, .int .i64 z1, .int .i64 z2, .int .i64 z3, .int .i64 z4, .int .i64 z5]) := Lib.hid (by rw [HZ.out]; rfl)
  go_wp2_with fail
  refine (implFaultCounts_any HREP.out A1 rs.length c1 rs A2 ms.length c2 ms A3 xs.length c3 xs _ rfl HR1.out rfl HR2.out rfl HR3.out (by omega) (by omega) (by omega) HSM1.out).mono ?_
  rintro e w7 ⟨rfl, b⟩
  rw [HAR.out, ← HOK.out]
  have Bw7 := Lib.hid (Bw6.out.trans (b.mono Bw6.out.size))
  have HR1' := Lib.hid (HR1.out.below b)
  clear HR1
  have HR1 := HR1'
  clear HR1'
  have HR2' := Lib.hid (HR2.out.below b)
  clear HR2
  have HR2 := HR2'
  clear HR2'
  have HR3' := Lib.hid (HR3.out.below b)
  clear HR3
  have HR3 := HR3'
  clear HR3'
  clear b
  have BA := Lib.hid ((Below.refl w7.heap.size w7).alloc (Nat.le_refl _) (.cells #[.int .i64 z0, .int .i64 z1, .int .i64 z2, .int .i64 z3, .int .i64 z4, .int .i64 z5] 34))
  have KA : Hid (Blk (w7.alloc (.cells #[.int .i64 z0, .int .i64 z1, .int .i64 z2, .int .i64 z3, .int .i64 z4, .int .i64 z5] 34)) w7.heap.size [.int .i64 z0, .int .i64 z1, .int .i64 z2, .int .i64 z3, .int .i64 z4, .int .i64 z5]) := Lib.hid (Blk.new w7 [.int .i64 z0, .int .i64 z1, .int .i64 z2, .int .i64 z3, .int .i64 z4, .int .i64 z5] 34)
  have HR1' := Lib.hid (HR1.out.below BA.out)
  clear HR1
  have HR1 := HR1'
  clear HR1'
  have HR2' := Lib.hid (HR2.out.below BA.out)
  clear HR2
  have HR2 := HR2'
  clear HR2'
  have HR3' := Lib.hid (HR3.out.below BA.out)
  clear HR3
  have HR3 := HR3'
  clear HR3'
  have BwA := Lib.hid (Bw7.out.trans (BA.out.mono Bw7.out.size))
  clear BA
  go_wp2_with fail
  refine (specFaultCounts_any A1 rs.length c1 rs A2 ms.length c2 ms A3 xs.length c3 xs _ rfl HR1.out rfl HR2.out rfl HR3.out (by omega) (by omega) (by omega) HSM1.out).mono ?_
  rintro e w8 ⟨rfl, b⟩
  rw [HAR.out, ← HOK.out]
  have KB := Lib.hid (KA.out.below b KA.out.lt)
  clear KA
  have Bw8 := Lib.hid (BwA.out.trans (b.mono BwA.out.size))
  clear b HR1 HR2 HR3
  have hgA : w7.heap.size < w8.heap.size := KB.out.lt
  have y0 := KB.out.cell 0 _ rfl
  have y1 := KB.out.cell 1 _ rfl
  have y2 := KB.out.cell 2 _ rfl
  have y3 := KB.out.cell 3 _ rfl
  have y4 := KB.out.cell 4 _ rfl
  have y5 := KB.out.cell 5 _ rfl
  have KC : Hid (Blk (w8.alloc (.cells #[.int .i64 z0, .int .i64 z1, .int .i64 z2, .int .i64 z3, .int .i64 z4, .int .i64 z5] 34)) w7.heap.size [.int .i64 z0, .int .i64 z1, .int .i64 z2, .int .i64 z3, .int .i64 z4, .int .i64 z5]) := Lib.hid (KB.out.alloc _)
  have BC := Lib.hid (Bw8.out.alloc Bw8.out.size (.cells #[.int .i64 z0, .int .i64 z1, .int .i64 z2, .int .i64 z3, .int .i64 z4, .int .i64 z5] 34))
  clear KB
  have hEG : ∀ (a b : Operand) (us vs : Array Value) (W : World), (eqGuard .neq 34 a b (.agg us) (.agg vs)).run Try.prog W = .ok () W := fun a b us vs W => guardArr6 .neq a b us vs W
  have hNE : ∀ W : World, (binOp .neq 34 (.agg #[.int .i64 z0, .int .i64 z1, .int .i64 z2, .int .i64 z3, .int .i64 z4, .int .i64 z5]) (.agg #[.int .i64 z0, .int .i64 z1, .int .i64 z2, .int .i64 z3, .int .i64 z4, .int .i64 z5])).run Try.prog W = .ok (.bool false) W := fun W => neqArr6 z0 z1 z2 z3 z4 z5 W
  cases ok with
  | false =>
    clear KC HZ
    as_aux_lemma =>
      go_wp2_with fail
      refine (D2.out _ (HY.out.below BC.out)).mono ?_
      rintro e w9 ⟨v6, v7, ps, us, office, rfl, ⟨⟨A6, c6, rfl, r6, -, -⟩, hl6⟩, ⟨⟨A7, c7, rfl, r7, -, -⟩, hl7⟩, hsm6, b⟩
      have Bw9 := Lib.hid (BC.out.trans (b.mono BC.out.size))
      have HR6 := Lib.hid r6
      have HR7 := Lib.hid r7
      have HSM6 := Lib.hid hsm6
      clear r6 r7 hsm6 b
      obtain ⟨fine, h_fine⟩ : ∃ fine, fine = viB ps us office := ⟨_, rfl⟩
      have HFI := Lib.hid h_fine
      clear h_fine
      obtain ⟨VI, h_VI⟩ : ∃ VI, VI = viV ps us office := ⟨_, rfl⟩
      have HVI := Lib.hid h_VI
      clear h_VI
      have hVIn : VI.length ≤ 1048576 := by rw [HVI.out]; have := viV_len ps us office; omega
      go_wp2_with fail
      refine (implCoversVia_any HREP.out A6 ps.length c6 ps A7 us.length c7 us office _ rfl HR6.out rfl HR7.out (by omega) (by omega) HSM6.out).mono ?_
      rintro e w10 ⟨v8, rfl, o, b⟩
      rw [← HFI.out]
      rw [← HVI.out] at o
      obtain ⟨A8, c8, rfl⟩ := own_form o
      have Bw10 := Lib.hid (Bw9.out.trans (b.mono Bw9.out.size))
      have HR6' := Lib.hid (HR6.out.below b)
      clear HR6
      have HR6 := HR6'
      clear HR6'
      have HR7' := Lib.hid (HR7.out.below b)
      clear HR7
      have HR7 := HR7'
      clear HR7'
      have HI8 := Lib.hid (Rd.of_own o)
      clear o b
      go_wp2_with fail
      refine (specCoversVia_any A6 ps.length c6 ps A7 us.length c7 us office _ rfl HR6.out rfl HR7.out (by omega) (by omega) HSM6.out).mono ?_
      rintro e w11 ⟨v9, rfl, o, b⟩
      rw [← HFI.out]
      rw [← HVI.out] at o
      obtain ⟨A9, c9, rfl⟩ := own_form o
      have Bw11 := Lib.hid (Bw10.out.trans (b.mono Bw10.out.size))
      have HR6' := Lib.hid (HR6.out.below b)
      clear HR6
      have HR6 := HR6'
      clear HR6'
      have HR7' := Lib.hid (HR7.out.below b)
      clear HR7
      have HR7 := HR7'
      clear HR7'
      have HI8' := Lib.hid (HI8.out.below b)
      clear HI8
      have HI8 := HI8'
      clear HI8'
      have HI9 := Lib.hid (Rd.of_own o)
      clear o b
      go_wp2_with fail
      refine (vInts_same _ _ _ _ _ VI _ rfl HI8.out HI9.out hVIn).mono ?_
      rintro e w12 ⟨rfl, b⟩
      have Bw12 := Lib.hid (Bw11.out.trans (b.mono Bw11.out.size))
      have HR6' := Lib.hid (HR6.out.below b)
      clear HR6
      have HR6 := HR6'
      clear HR6'
      have HR7' := Lib.hid (HR7.out.below b)
      clear HR7
      have HR7 := HR7'
      clear HR7'
      have HI8' := Lib.hid (HI8.out.below b)
      clear HI8
      have HI8 := HI8'
      clear HI8'
      clear b
      cases fine with
      | false =>
        go_wp2
        go_ret
        exact ⟨by first | rfl | simp, Bw12.out⟩
      | true =>
        have FA := Lib.hid (fun x hx => vi_fact (x := x) HFI.out.symm hx)
        rw [← HVI.out] at FA
        have FH : Hid (∀ a : Int, VI.elem a = hasB VI a) := Lib.hid (fun a => by rw [Bool.eq_iff_iff, hasB_true, List.elem_iff])
        go_wp2_with fail
        go_loopw [23, 24, 25] (fun i _ _ wr => ∃ t : Nat, i = .int .i64 t ∧ t ≤ us.length ∧ Below w12.heap.size w12 wr) (fun i _ _ _ => us.length - (intOf i).toNat)
        case atStart => exact ⟨0, rfl, by omega, Below.refl _ _⟩
        case round =>
          obtain ⟨t, rfl, ht, hbw⟩ := hrel
          have HBW := Lib.hid hbw
          clear hbw
          by_cases htl : t < us.length
          · have htl' : (t : Int) < (us.length : Int) := by omega
            have ht0 : (0 : Int) ≤ (t : Int) := by omega
            obtain ⟨y, ey⟩ : ∃ y, us[t]? = some y := ⟨_, List.getElem?_eq_getElem htl⟩
            have F5 := Lib.hid (FA.out y (List.mem_of_getElem? ey))
            obtain ⟨g, o, eA, hg, q0, q1, q2, q3, q4, q5, q6, q7, q8⟩ := (HR7.out.below HBW.out).at9 ey
            subst eA
            clear ey
            have HRM := Lib.hid (HR6.out.below HBW.out)
            obtain ⟨one, hone⟩ : ∃ one, one = rnB ps y := ⟨_, rfl⟩
            rw [← hone] at F5
            have HONE := Lib.hid hone
            clear hone
            go_wp2_with fail
            refine (implRouteOn_any HREP.out A6 ps.length c6 ps y _ rfl HRM.out (by omega) HSM6.out).mono ?_
            rintro e wa ⟨va, rfl, b⟩
            rw [← HONE.out]
            have q0' := (b.cell (p := ⟨g, o + t * 9, none⟩) hg).trans q0
            have q6' := (b.cell (p := ⟨g, o + t * 9 + 6, none⟩) hg).trans q6
            have hg2 := Nat.lt_of_lt_of_le hg b.size
            have HBA := Lib.hid (HBW.out.trans (b.mono HBW.out.size))
            have HIV := Lib.hid (HI8.out.below HBA.out)
            clear b q0 q1 q2 q3 q4 q5 q6 q7 q8
            cases one with
            | false =>
              have hh : hasB VI y.a = false := by rw [← FH.out]; exact F5.out.2 rfl
              have HH := Lib.hid hh
              clear hh
              go_wp2_with fail
              refine (vHas_any A8 VI.length c8 VI y.a _ rfl HIV.out hVIn).mono ?_
              rintro e wb ⟨rfl, rfl⟩
              rw [HH.out]
              go_wp2
              go_roundw
              case rel => exact ⟨t + 1, by go_num, by omega, HBA.out⟩
              case measure => simp [intOf]; omega
            | true =>
              by_cases hto : y.g = office
              · have hto1 : (y.g == office) = true := by simp [hto]
                have hh : hasB VI y.a = true := by rw [← FH.out]; exact F5.out.1 rfl hto
                have HH := Lib.hid hh
                clear hh hto
                go_wp2_with fail
                refine (vHas_any A8 VI.length c8 VI y.a _ rfl HIV.out hVIn).mono ?_
                rintro e wb ⟨rfl, rfl⟩
                rw [HH.out]
                go_wp2
                go_roundw
                case rel => exact ⟨t + 1, by go_num, by omega, HBA.out⟩
                case measure => simp [intOf]; omega
              · have hto1 : (y.g == office) = false := by simp [hto]
                clear hto
                go_wp2
                go_roundw
                case rel => exact ⟨t + 1, by go_num, by omega, HBA.out⟩
                case measure => simp [intOf]; omega
          · obtain rfl : t = us.length := by omega
            go_wp2
            go_ret
            exact ⟨by first | rfl | simp, Bw12.out.trans (HBW.out.mono Bw12.out.size)⟩
  | true =>
    have hf0 := fc_zero HOK.out.symm
    have hfs := fc_sum HOK.out.symm
    rw [HZ.out] at hf0 hfs
    rw [← HTC.out] at hf0
    have hz0 : z0 = (TC.length : Int) := by simpa using hf0
    have hzs : z0 + z1 + z2 + z3 + z4 + z5 = (xs.length : Int) := by simp at hfs; omega
    have HS0 := Lib.hid hz0
    have HSS := Lib.hid hzs
    clear hf0 hfs hz0 hzs
    go_wp2_with fail
    clear y0 y1 y2 y3 y4 y5 hNE hEG
    go_loopw [14, 15] (fun s i wr => ∃ t : Nat, i = .int .i64 t ∧ t ≤ 6 ∧ s = .int .i64 (([z0, z1, z2, z3, z4, z5].take t).sum) ∧ (w8.alloc (.cells #[.int .i64 z0, .int .i64 z1, .int .i64 z2, .int .i64 z3, .int .i64 z4, .int .i64 z5] 34)) = wr) (fun _ i _ => 10 - (intOf i).toNat)
    case atStart => exact ⟨0, rfl, by omega, by simp, rfl⟩
    case round =>
      obtain ⟨t, rfl, ht, rfl, rfl⟩ := hrel
      obtain ⟨S, hS⟩ : ∃ S, S = ([z0, z1, z2, z3, z4, z5].take t).sum := ⟨_, rfl⟩
      rw [← hS]
      by_cases ht6 : t < 6
      · have ht6' : (t : Int) < 6 := by omega
        have ht0 : (0 : Int) ≤ (t : Int) := by omega
        obtain ⟨zt, hzt⟩ : ∃ zt, [z0, z1, z2, z3, z4, z5][t]? = some zt := ⟨_, List.getElem?_eq_getElem (by simp; omega)⟩
        have hst : ([z0, z1, z2, z3, z4, z5].take (t + 1)).sum = S + zt := by rw [List.take_add_one, hzt, hS]; simp
        have hbt : 0 ≤ zt ∧ zt ≤ 30 := by have := List.mem_of_getElem? hzt; simp only [List.mem_cons, List.not_mem_nil, or_false] at this; rcases this with h | h | h | h | h | h <;> subst h <;> omega
        have hbS : 0 ≤ S ∧ S ≤ 200 := by
          rw [hS]
          have : t = 0 ∨ t = 1 ∨ t = 2 ∨ t = 3 ∨ t = 4 ∨ t = 5 := by omega
          rcases this with h | h | h | h | h | h <;> subst h <;> simp <;> omega
        have yt := KC.out.cell t (.int .i64 zt) (by have h : (cells1 [z0, z1, z2, z3, z4, z5])[t]? = some (.int .i64 zt) := (by rw [cells1, List.getElem?_map, hzt]; rfl); exact h)
        have hgC := KC.out.lt
        have HST := Lib.hid hst
        clear hst hzt hS
        go_wp2
        go_roundw
        case rel => exact ⟨t + 1, by go_num, by omega, by (rw [HST.out] <;> go_num), by first | rfl | trivial⟩
        case measure => simp [intOf]; omega
      · obtain rfl : t = 6 := by omega
        rw [show ((6 : Nat) : Int) = 6 from rfl]
        have hS2 : S = (xs.length : Int) := by rw [hS, ← HSS.out]; simp; omega
        have hz0 := HS0.out
        have y0 := KC.out.cell 0 _ rfl
        have hgC := KC.out.lt
        have q1 : (z0 != (TC.length : Int)) = false := by rw [hz0]; simp
        have q2 : ((xs.length : Int) != (xs.length : Int)) = false := by simp
        clear hS
        subst hS2
        clear hz0 KC HZ HAR HS0 HSS
        as_aux_lemma =>
          go_wp2_with fail
          refine (D2.out _ (HY.out.below BC.out)).mono ?_
          rintro e w13 ⟨v6, v7, ps, us, office, rfl, ⟨⟨A6, c6, rfl, r6, -, -⟩, hl6⟩, ⟨⟨A7, c7, rfl, r7, -, -⟩, hl7⟩, hsm6, b⟩
          have Bw13 := Lib.hid (BC.out.trans (b.mono BC.out.size))
          have HR6 := Lib.hid r6
          have HR7 := Lib.hid r7
          have HSM6 := Lib.hid hsm6
          clear r6 r7 hsm6 b
          obtain ⟨fine, h_fine⟩ : ∃ fine, fine = viB ps us office := ⟨_, rfl⟩
          have HFI := Lib.hid h_fine
          clear h_fine
          obtain ⟨VI, h_VI⟩ : ∃ VI, VI = viV ps us office := ⟨_, rfl⟩
          have HVI := Lib.hid h_VI
          clear h_VI
          have hVIn : VI.length ≤ 1048576 := by rw [HVI.out]; have := viV_len ps us office; omega
          go_wp2_with fail
          refine (implCoversVia_any HREP.out A6 ps.length c6 ps A7 us.length c7 us office _ rfl HR6.out rfl HR7.out (by omega) (by omega) HSM6.out).mono ?_
          rintro e w14 ⟨v8, rfl, o, b⟩
          rw [← HFI.out]
          rw [← HVI.out] at o
          obtain ⟨A8, c8, rfl⟩ := own_form o
          have Bw14 := Lib.hid (Bw13.out.trans (b.mono Bw13.out.size))
          have HR6' := Lib.hid (HR6.out.below b)
          clear HR6
          have HR6 := HR6'
          clear HR6'
          have HR7' := Lib.hid (HR7.out.below b)
          clear HR7
          have HR7 := HR7'
          clear HR7'
          have HI8 := Lib.hid (Rd.of_own o)
          clear o b
          go_wp2_with fail
          refine (specCoversVia_any A6 ps.length c6 ps A7 us.length c7 us office _ rfl HR6.out rfl HR7.out (by omega) (by omega) HSM6.out).mono ?_
          rintro e w15 ⟨v9, rfl, o, b⟩
          rw [← HFI.out]
          rw [← HVI.out] at o
          obtain ⟨A9, c9, rfl⟩ := own_form o
          have Bw15 := Lib.hid (Bw14.out.trans (b.mono Bw14.out.size))
          have HR6' := Lib.hid (HR6.out.below b)
          clear HR6
          have HR6 := HR6'
          clear HR6'
          have HR7' := Lib.hid (HR7.out.below b)
          clear HR7
          have HR7 := HR7'
          clear HR7'
          have HI8' := Lib.hid (HI8.out.below b)
          clear HI8
          have HI8 := HI8'
          clear HI8'
          have HI9 := Lib.hid (Rd.of_own o)
          clear o b
          go_wp2_with fail
          refine (vInts_same _ _ _ _ _ VI _ rfl HI8.out HI9.out hVIn).mono ?_
          rintro e w16 ⟨rfl, b⟩
          have Bw16 := Lib.hid (Bw15.out.trans (b.mono Bw15.out.size))
          have HR6' := Lib.hid (HR6.out.below b)
          clear HR6
          have HR6 := HR6'
          clear HR6'
          have HR7' := Lib.hid (HR7.out.below b)
          clear HR7
          have HR7 := HR7'
          clear HR7'
          have HI8' := Lib.hid (HI8.out.below b)
          clear HI8
          have HI8 := HI8'
          clear HI8'
          clear b
          cases fine with
          | false =>
            go_wp2
            go_ret
            exact ⟨by first | rfl | simp, Bw16.out⟩
          | true =>
            have FA := Lib.hid (fun x hx => vi_fact (x := x) HFI.out.symm hx)
            rw [← HVI.out] at FA
            have FH : Hid (∀ a : Int, VI.elem a = hasB VI a) := Lib.hid (fun a => by rw [Bool.eq_iff_iff, hasB_true, List.elem_iff])
            go_wp2_with fail
            go_loopw [23, 24, 25] (fun i _ _ wr => ∃ t : Nat, i = .int .i64 t ∧ t ≤ us.length ∧ Below w16.heap.size w16 wr) (fun i _ _ _ => us.length - (intOf i).toNat)
            case atStart => exact ⟨0, rfl, by omega, Below.refl _ _⟩
            case round =>
              obtain ⟨t, rfl, ht, hbw⟩ := hrel
              have HBW := Lib.hid hbw
              clear hbw
              by_cases htl : t < us.length
              · have htl' : (t : Int) < (us.length : Int) := by omega
                have ht0 : (0 : Int) ≤ (t : Int) := by omega
                obtain ⟨y, ey⟩ : ∃ y, us[t]? = some y := ⟨_, List.getElem?_eq_getElem htl⟩
                have F5 := Lib.hid (FA.out y (List.mem_of_getElem? ey))
                obtain ⟨g, o, eA, hg, q0, q1, q2, q3, q4, q5, q6, q7, q8⟩ := (HR7.out.below HBW.out).at9 ey
                subst eA
                clear ey
                have HRM := Lib.hid (HR6.out.below HBW.out)
                obtain ⟨one, hone⟩ : ∃ one, one = rnB ps y := ⟨_, rfl⟩
                rw [← hone] at F5
                have HONE := Lib.hid hone
                clear hone
                go_wp2_with fail
                refine (implRouteOn_any HREP.out A6 ps.length c6 ps y _ rfl HRM.out (by omega) HSM6.out).mono ?_
                rintro e wa ⟨va, rfl, b⟩
                rw [← HONE.out]
                have q0' := (b.cell (p := ⟨g, o + t * 9, none⟩) hg).trans q0
                have q6' := (b.cell (p := ⟨g, o + t * 9 + 6, none⟩) hg).trans q6
                have hg2 := Nat.lt_of_lt_of_le hg b.size
                have HBA := Lib.hid (HBW.out.trans (b.mono HBW.out.size))
                have HIV := Lib.hid (HI8.out.below HBA.out)
                clear b q0 q1 q2 q3 q4 q5 q6 q7 q8
                cases one with
                | false =>
                  have hh : hasB VI y.a = false := by rw [← FH.out]; exact F5.out.2 rfl
                  have HH := Lib.hid hh
                  clear hh
                  go_wp2_with fail
                  refine (vHas_any A8 VI.length c8 VI y.a _ rfl HIV.out hVIn).mono ?_
                  rintro e wb ⟨rfl, rfl⟩
                  rw [HH.out]
                  go_wp2
                  go_roundw
                  case rel => exact ⟨t + 1, by go_num, by omega, HBA.out⟩
                  case measure => simp [intOf]; omega
                | true =>
                  by_cases hto : y.g = office
                  · have hto1 : (y.g == office) = true := by simp [hto]
                    have hh : hasB VI y.a = true := by rw [← FH.out]; exact F5.out.1 rfl hto
                    have HH := Lib.hid hh
                    clear hh hto
                    go_wp2_with fail
                    refine (vHas_any A8 VI.length c8 VI y.a _ rfl HIV.out hVIn).mono ?_
                    rintro e wb ⟨rfl, rfl⟩
                    rw [HH.out]
                    go_wp2
                    go_roundw
                    case rel => exact ⟨t + 1, by go_num, by omega, HBA.out⟩
                    case measure => simp [intOf]; omega
                  · have hto1 : (y.g == office) = false := by simp [hto]
                    clear hto
                    go_wp2
                    go_roundw
                    case rel => exact ⟨t + 1, by go_num, by omega, HBA.out⟩
                    case measure => simp [intOf]; omega
              · obtain rfl : t = us.length := by omega
                go_wp2
                go_ret
                exact ⟨by first | rfl | simp, Bw16.out.trans (HBW.out.mono Bw16.out.size)⟩

theorem own : ownKnob Try.prog.godebug = none := by kernel_rfl
theorem laidOut : laidOutB Try.prog = true := by kernel_rfl
set_option maxRecDepth 100000 in
theorem lifted (os : Os) (started : os.Started) (H : Type) (enc : TypeId × Value → H) :
    ReturnsInHanded {} Try.checked os 3 .any (Rows.fnCoverListsSpec.pre6 enc Try.prog Try.f3 Rows.fnCoverListsRow.domain false) (Rows.fnCoverListsSpec.post enc Try.prog Try.f3 false true false false) := by
  refine returnsInHanded_of_change (C := Try.checked) own started (by kernel_rfl) Try.func3
    (ChangeSpec.witness6 (enc := enc) (C := Try.checked) false ⟨#[], #[.slice none 0 0], []⟩ 8 (by kernel_rfl) (by kernel_rfl) (by kernel_rfl) (by kernel_rfl)) ?_
  intro W base args ds gs before hval0 hW hcnd _
  have hval : ∀ (j : Nat) t v, Try.f3.params[j]? = some t → args[j]? = some v → Value.okWide Try.prog W .any base t v := hval0
  have hW' := hW
  obtain ⟨p, q, hA0, hV, rfl, hfz, hnd⟩ := hW
  have hA : DataW.TrodAll enc Try.prog W 0 (fun _ => true) true Try.f3.params.toList args.toList ds p := hA0
  rw [Try.params3] at hA hval
  obtain ⟨v0, vs0, d0, ds0, p0, q0, hargs, rfl, rfl, h0, r0⟩ := trodAll_cons hA
  obtain ⟨rfl, rfl, rfl⟩ := trodAll_nil r0
  obtain rfl : args = #[v0] := by cases args; simp_all
  obtain ⟨rfl, rfl⟩ := trodVars_none hV
  obtain ⟨a0, len0, cap0, rfl⟩ := okWide_slice Try.underlying22 (hval 0 22 v0 rfl rfl)
  have k0 := h0
  have lt0 : ∀ x ∈ p0, x.block < W.heap.size := by obtain ⟨m, hm⟩ := k0; exact DataW.trod_lt m _ _ _ hm
  obtain ⟨zs, hl0, hr0, hm0, hb0⟩ := openU Try.underlying22 Try.underlying5 (by kernel_rfl) h0
  clear hA0 hval0
  refine (walk a0 len0 cap0 zs W hl0 hr0 hm0 hb0).mono fun e W' ⟨he, bel⟩ => ?_
  subst he
  exact ⟨_, rfl, _, _, _, [], _, [], hW', trodAll_mk1 (shut_bool Try.underlying4 _), (trodAll_cons_mk (Below.trod laidOut (by kernel_rfl) (of_decide_eq_true (by kernel_rfl)) k0 bel lt0) trodAll_mk0), rfl, bel.frame _, fun h => by cases h⟩

theorem over : Rows.fnCoverListsRow.holds Try.pinned (OpenSpec.ofChange Rows.fnCoverListsSpec) :=
  OpenClaim.holds_of_wide 3 Try.f3 rfl rfl rfl rfl rfl rfl rfl ⟨rfl, rfl, rfl, rfl, rfl⟩ rfl rfl rfl rfl rfl (by kernel_rfl) Try.func3 (by kernel_rfl)
    (of_decide_eq_true (by kernel_rfl)) (by unfold Func.isWrapper; first | (rw [if_pos (by decide +kernel)]; kernel_rfl) | (rw [if_neg (by decide +kernel)]; exact ⟨rfl, rfl⟩))
    (fun os started H enc _ => lifted os started H enc)

theorem proved : Rows.FnCoverListsSaid := over
#print axioms proved
end Go.Proofs.Ytobloedpmjkgpaa.lwFnCoverLists
