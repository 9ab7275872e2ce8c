/- The law FnClients returns true for every input: an item is unsold exactly if no client has bought it, clients keep no more than they were sent, overdue approvals have items that are out, and the texts agree; no condition but the card's own: the listed tables of the library hold what their text lays. -/
import Derived.Test.YtehohkdipfphmaaDoorDrA7
import Derived.Test.YtehohkdipfphmaaDoorDrA8
import Derived.Test.YtehohkdipfphmaaDoorClP
import Derived.Test.YtehohkdipfphmaaDoorAppN
import Derived.Test.YtehohkdipfphmaaDoorTAppIB
import Derived.Test.YtehohkdipfphmaaDoorDLaidC
namespace Go.Proofs.YtehohkdipfphmaaDoor.ltFnClients
set_option linter.unusedSimpArgs false
open Go.ChangeShapes Go.WideShapes Go.ChangeAt Go.RowKit
set_option linter.unusedVariables false

set_option maxRecDepth 20000 in
set_option maxHeartbeats 16000000 in
theorem walk (B : Option Addr) (n c : Nat) (zs : List Int) (w : World) (hn : zs.length = n) (hB : Rd w B (cellsU zs)) (hm : n ≤ maxLen) (hb : ∀ z ∈ zs, 0 ≤ z ∧ z ≤ 255)
    (ht : ∀ w', Below w.heap.size w w' → Lib.TabIs Tryd.prog w' "internal/strconv.uint64pow10" .u64 Lib.pow10Tab) :
    Calls Tryd.prog 3 #[.slice B n c] w (Ret (.bool true) w) := by
  have HT := Lib.hid ht
  clear ht
  have CB := Lib.hid (fun w => rBig_any B n c w hm)
  by_cases hbig : (65536 : Int) < n
  · rw [show decide ((65536 : Int) < n) = true by simp; omega] at CB
    clear hbig hn
    go_enter Tryd.func3, Tryd.ntmps3
    go_wp2_with fail
    refine (CB.out _).mono ?_
    rintro e w1 ⟨rfl, rfl⟩
    go_wp2
    go_ret
    exact ⟨rfl, Below.refl _ _⟩
  rw [show decide ((65536 : Int) < n) = false by simp; omega] at CB
  have HY : Hid (Bytes w B zs) := Lib.hid ⟨hB, hb, by omega⟩
  have HN := Lib.hid hn
  clear hbig hn hB hm hb
  have D1 := Lib.hid (fun w h => drawBoughtBy_any B n c zs w HN.out h)
  have D2 := Lib.hid (fun w h => drawOverdueIds_any B n c zs w HN.out h)
  have D3 := Lib.hid (fun w h => drawApprovalText_any B n c zs w HN.out h)
  go_enter Tryd.func3, Tryd.ntmps3
  go_wp2_with fail
  refine (CB.out _).mono ?_
  rintro e w0 ⟨rfl, rfl⟩
  have HB0 := Lib.hid (Below.refl w.heap.size w)
  go_wp2_with fail
  refine (D1.out _ (HY.out)).mono ?_
  rintro e w1 ⟨v1, xs, cl, rfl, hcl, hl, b⟩
  have Bw1 := Lib.hid (HB0.out.trans (b.mono HB0.out.size))
  obtain ⟨A1, c1, rfl, r1, hp1, hq1⟩ := hl.form
  have hl1 := hl.len
  have hw1 := Lib.hid hl.ds
  have HR1 := Lib.hid r1
  clear r1 hl b
  have hW1 : Hid (∀ x ∈ xs, smA x) := Lib.hid (fun x hx => (hw1.out x hx).sm)
  have HD1 := hw1
  clear hw1
  have hC1 := Lib.hid (And.intro hp1 hq1)
  clear hp1 hq1
  have hcl2 : (cl.size : Int) ≤ 1048576 := by omega
  obtain ⟨ok, h_ok⟩ : ∃ ok, ok = byB xs cl := ⟨_, rfl⟩
  have HOK := Lib.hid h_ok
  clear h_ok
  obtain ⟨BY, h_BY⟩ : ∃ BY, BY = byV xs cl := ⟨_, rfl⟩
  have HBY := Lib.hid h_BY
  clear h_BY
  obtain ⟨fine, h_fine⟩ : ∃ fine, fine = unB xs := ⟨_, rfl⟩
  have HFI := Lib.hid h_fine
  clear h_fine
  obtain ⟨UN, h_UN⟩ : ∃ UN, UN = unV xs := ⟨_, rfl⟩
  have HUN := Lib.hid h_UN
  clear h_UN
  have hBYn : BY.length ≤ 1048576 := by rw [HBY.out]; exact byV_len xs cl
  have hUNn : UN.length ≤ 1048576 := by rw [HUN.out]; exact unV_len xs
  have F1 : Hid (∀ (i : Nat) (z : Int), BY[i]? = some z → hasB UN z = false) := Lib.hid (fun i z h => by rw [HUN.out]; rw [HBY.out] at h; exact by_gd h)
  go_wp2_with fail
  refine (implBoughtBy_any A1 xs.length c1 xs cl _ rfl HR1.out (by omega) hW1.out hC1.out hcl2).mono ?_
  rintro e w2 ⟨v2, rfl, o, b⟩
  rw [← HOK.out]
  rw [← HBY.out] at o
  obtain ⟨A2, c2, rfl⟩ := own_form o
  have Bw2 := Lib.hid (Bw1.out.trans (b.mono Bw1.out.size))
  have HR1' := Lib.hid (HR1.out.below b)
  clear HR1
  have HR1 := HR1'
  clear HR1'
  have HI2 := Lib.hid (Rd.of_own o)
  clear o b
  go_wp2_with fail
  refine (specBoughtBy_any A1 xs.length c1 xs cl _ rfl HR1.out (by omega) hW1.out hC1.out hcl2).mono ?_
  rintro e w3 ⟨v3, rfl, o, b⟩
  rw [← HOK.out]
  rw [← HBY.out] at o
  obtain ⟨A3, c3, rfl⟩ := own_form o
  have Bw3 := Lib.hid (Bw2.out.trans (b.mono Bw2.out.size))
  have HR1' := Lib.hid (HR1.out.below b)
  clear HR1
  have HR1 := HR1'
  clear HR1'
  have HI2' := Lib.hid (HI2.out.below b)
  clear HI2
  have HI2 := HI2'
  clear HI2'
  have HI3 := Lib.hid (Rd.of_own o)
  clear o b
  go_wp2_with fail
  refine (rInts_same _ _ _ _ _ BY _ rfl HI2.out HI3.out hBYn).mono ?_
  rintro e w4 ⟨rfl, b⟩
  have Bw4 := Lib.hid (Bw3.out.trans (b.mono Bw3.out.size))
  have HR1' := Lib.hid (HR1.out.below b)
  clear HR1
  have HR1 := HR1'
  clear HR1'
  have HI2' := Lib.hid (HI2.out.below b)
  clear HI2
  have HI2 := HI2'
  clear HI2'
  clear b
  go_wp2_with fail
  refine (implUnsoldItems_any A1 xs.length c1 xs _ rfl HR1.out (by omega) hW1.out hC1.out).mono ?_
  rintro e w5 ⟨v4, rfl, o, b⟩
  rw [← HFI.out]
  rw [← HUN.out] at o
  obtain ⟨A4, c4, rfl⟩ := own_form o
  have Bw5 := Lib.hid (Bw4.out.trans (b.mono Bw4.out.size))
  have HR1' := Lib.hid (HR1.out.below b)
  clear HR1
  have HR1 := HR1'
  clear HR1'
  have HI2' := Lib.hid (HI2.out.below b)
  clear HI2
  have HI2 := HI2'
  clear HI2'
  have HI4 := Lib.hid (Rd.of_own o)
  clear o b
  go_wp2_with fail
  refine (specUnsoldItems_any A1 xs.length c1 xs _ rfl HR1.out (by omega) hW1.out hC1.out).mono ?_
  rintro e w6 ⟨v5, rfl, o, b⟩
  rw [← HFI.out]
  rw [← HUN.out] at o
  obtain ⟨A5, c5, rfl⟩ := own_form o
  have Bw6 := Lib.hid (Bw5.out.trans (b.mono Bw5.out.size))
  have HR1' := Lib.hid (HR1.out.below b)
  clear HR1
  have HR1 := HR1'
  clear HR1'
  have HI2' := Lib.hid (HI2.out.below b)
  clear HI2
  have HI2 := HI2'
  clear HI2'
  have HI4' := Lib.hid (HI4.out.below b)
  clear HI4
  have HI4 := HI4'
  clear HI4'
  have HI5 := Lib.hid (Rd.of_own o)
  clear o b
  go_wp2_with fail
  refine (rInts_same _ _ _ _ _ UN _ rfl HI4.out HI5.out hUNn).mono ?_
  rintro e w7 ⟨rfl, b⟩
  have Bw7 := Lib.hid (Bw6.out.trans (b.mono Bw6.out.size))
  have HR1' := Lib.hid (HR1.out.below b)
  clear HR1
  have HR1 := HR1'
  clear HR1'
  have HI2' := Lib.hid (HI2.out.below b)
  clear HI2
  have HI2 := HI2'
  clear HI2'
  have HI4' := Lib.hid (HI4.out.below b)
  clear HI4
  have HI4 := HI4'
  clear HI4'
  clear b
  go_wp2_with fail
  go_loopw [13] (fun i wr => ∃ t : Nat, i = .int .i64 t ∧ t ≤ BY.length ∧ w7 = wr) (fun i _ => BY.length - (intOf i).toNat)
  case atStart => exact ⟨0, rfl, by omega, rfl⟩
  case round =>
    obtain ⟨t, rfl, ht, rfl⟩ := hrel
    by_cases htl : t < BY.length
    · have htl' : (t : Int) < (BY.length : Int) := by omega
      obtain ⟨z, ez⟩ : ∃ z, BY[t]? = some z := ⟨_, List.getElem?_eq_getElem htl⟩
      have HZ := Lib.hid (F1.out t z ez)
      have ht0 : (0 : Int) ≤ (t : Int) := by omega
      obtain ⟨gz, oz, eA, hgz, cz⟩ := HI2.out.at1 ez
      subst eA
      clear ez
      go_wp2_with fail
      refine (rHas_any A4 UN.length c4 UN z _ rfl HI4.out hUNn).mono ?_
      rintro e wb ⟨rfl, rfl⟩
      rw [HZ.out]
      go_wp2
      go_roundw
      case rel => exact ⟨t + 1, by go_num, by omega, by first | rfl | trivial⟩
      case measure => simp [intOf]; omega
    · obtain rfl : t = BY.length := by omega
      clear F1 HI2 HBY HOK ht htl
      cases fine with
      | false =>
        have hg0 : goodA xs = false := HFI.out.symm
        have hpos : 0 < xs.length := by
          rcases Nat.eq_zero_or_pos xs.length with h | h
          · rw [List.length_eq_zero_iff.1 h] at hg0; simp [goodA] at hg0
          · exact h
        have hpos' : (0 : Int) < (xs.length : Int) := by omega
        have hkb0 : ksB xs cl = false := by unfold ksB; rw [hg0]; rfl
        have HK0 := Lib.hid hkb0
        clear hg0 hkb0
        go_wp2_with fail
        go_loopw [14, 15, 16, 17, 18] (fun i _ _ _ _ wr => i = .int .i64 0 ∧ w7 = wr) (fun i _ _ _ _ _ => xs.length - (intOf i).toNat)
        case atStart => exact ⟨rfl, rfl⟩
        case round =>
          obtain ⟨rfl, rfl⟩ := hrel
          as_aux_lemma =>
            obtain ⟨kn, h_kn⟩ : ∃ kn, kn = ksN xs cl := ⟨_, rfl⟩
            have HKN := Lib.hid h_kn
            clear h_kn
            obtain ⟨kd, h_kd⟩ : ∃ kd, kd = ksD xs cl := ⟨_, rfl⟩
            have HKD := Lib.hid h_kd
            clear h_kd
            have hknn : (kn != kn) = false := by simp
            have hkdd : (kd != kd) = false := by simp
            go_wp2_with fail
            refine (implKeepShare_any A1 xs.length c1 xs cl _ rfl HR1.out (by omega) hW1.out hC1.out hcl2).mono ?_
            rintro e w8 ⟨rfl, b⟩
            rw [← HKN.out, ← HKD.out, HK0.out]
            have Bw8 := Lib.hid (Bw7.out.trans (b.mono Bw7.out.size))
            have HR1' := Lib.hid (HR1.out.below b)
            clear HR1
            have HR1 := HR1'
            clear HR1'
            clear b
            go_wp2_with fail
            refine (specKeepShare_any A1 xs.length c1 xs cl _ rfl HR1.out (by omega) hW1.out hC1.out hcl2).mono ?_
            rintro e w9 ⟨rfl, b⟩
            rw [← HKN.out, ← HKD.out, HK0.out]
            have Bw9 := Lib.hid (Bw8.out.trans (b.mono Bw8.out.size))
            have HR1' := Lib.hid (HR1.out.below b)
            clear HR1
            have HR1 := HR1'
            clear HR1'
            clear b
            as_aux_lemma =>
              go_wp2_with fail
              refine (D2.out _ (HY.out.below Bw9.out)).mono ?_
              rintro e w10 ⟨v6, us, day, most, rfl, hl, b⟩
              have Bw10 := Lib.hid (Bw9.out.trans (b.mono Bw9.out.size))
              have HR1' := Lib.hid (HR1.out.below b)
              clear HR1
              have HR1 := HR1'
              clear HR1'
              obtain ⟨A6, c6, rfl, r6, hp6, hq6⟩ := hl.form
              have hl6 := hl.len
              have hw6 := Lib.hid hl.ds
              have HR6 := Lib.hid r6
              clear r6 hl b
              have hW6 : Hid (∀ x ∈ us, smA x) := Lib.hid (fun x hx => (hw6.out x hx).sm)
              have HD6 := hw6
              clear hw6
              have hC6 := Lib.hid (And.intro hp6 hq6)
              clear hp6 hq6
              obtain ⟨known, h_known⟩ : ∃ known, known = odB us day most := ⟨_, rfl⟩
              have HKW := Lib.hid h_known
              clear h_known
              obtain ⟨OD, h_OD⟩ : ∃ OD, OD = odV us day most := ⟨_, rfl⟩
              have HOD := Lib.hid h_OD
              clear h_OD
              obtain ⟨one, h_one⟩ : ∃ one, one = ioB us day := ⟨_, rfl⟩
              have HON := Lib.hid h_one
              clear h_one
              obtain ⟨IO, h_IO⟩ : ∃ IO, IO = ioV us day := ⟨_, rfl⟩
              have HIO := Lib.hid h_IO
              clear h_IO
              have hODn : OD.length ≤ 1048576 := by rw [HOD.out]; exact odV_len us day most
              have hIOn : IO.length ≤ 1048576 := by rw [HIO.out]; exact ioV_len us day
              go_wp2_with fail
              refine (implOverdueIds_any A6 us.length c6 us day most _ rfl HR6.out (by omega) hW6.out hC6.out).mono ?_
              rintro e w11 ⟨v7, rfl, o, b⟩
              rw [← HKW.out]
              rw [← HOD.out] at o
              obtain ⟨A7, c7, rfl⟩ := own_form o
              have Bw11 := Lib.hid (Bw10.out.trans (b.mono Bw10.out.size))
              have HR1' := Lib.hid (HR1.out.below b)
              clear HR1
              have HR1 := HR1'
              clear HR1'
              have HR6' := Lib.hid (HR6.out.below b)
              clear HR6
              have HR6 := HR6'
              clear HR6'
              have HI7 := Lib.hid (Rd.of_own o)
              clear o b
              go_wp2_with fail
              refine (specOverdueIds_any A6 us.length c6 us day most _ rfl HR6.out (by omega) hW6.out hC6.out).mono ?_
              rintro e w12 ⟨v8, rfl, o, b⟩
              rw [← HKW.out]
              rw [← HOD.out] at o
              obtain ⟨A8, c8, rfl⟩ := own_form o
              have Bw12 := Lib.hid (Bw11.out.trans (b.mono Bw11.out.size))
              have HR1' := Lib.hid (HR1.out.below b)
              clear HR1
              have HR1 := HR1'
              clear HR1'
              have HR6' := Lib.hid (HR6.out.below b)
              clear HR6
              have HR6 := HR6'
              clear HR6'
              have HI7' := Lib.hid (HI7.out.below b)
              clear HI7
              have HI7 := HI7'
              clear HI7'
              have HI8 := Lib.hid (Rd.of_own o)
              clear o b
              go_wp2_with fail
              refine (rInts_same _ _ _ _ _ OD _ rfl HI7.out HI8.out hODn).mono ?_
              rintro e w13 ⟨rfl, b⟩
              have Bw13 := Lib.hid (Bw12.out.trans (b.mono Bw12.out.size))
              have HR1' := Lib.hid (HR1.out.below b)
              clear HR1
              have HR1 := HR1'
              clear HR1'
              have HR6' := Lib.hid (HR6.out.below b)
              clear HR6
              have HR6 := HR6'
              clear HR6'
              have HI7' := Lib.hid (HI7.out.below b)
              clear HI7
              have HI7 := HI7'
              clear HI7'
              clear b
              go_wp2_with fail
              refine (implItemsOut_any A6 us.length c6 us day _ rfl HR6.out (by omega) hW6.out hC6.out).mono ?_
              rintro e w14 ⟨v9, rfl, o, b⟩
              rw [← HON.out]
              rw [← HIO.out] at o
              obtain ⟨A9, c9, rfl⟩ := own_form o
              have Bw14 := Lib.hid (Bw13.out.trans (b.mono Bw13.out.size))
              have HR1' := Lib.hid (HR1.out.below b)
              clear HR1
              have HR1 := HR1'
              clear HR1'
              have HR6' := Lib.hid (HR6.out.below b)
              clear HR6
              have HR6 := HR6'
              clear HR6'
              have HI7' := Lib.hid (HI7.out.below b)
              clear HI7
              have HI7 := HI7'
              clear HI7'
              have HI9 := Lib.hid (Rd.of_own o)
              clear o b
              cases known with
              | false =>
                go_wp2_with fail
                go_loopw [34] (fun i wr => i = .int .i64 0 ∧ w14 = wr) (fun i _ => us.length - (intOf i).toNat)
                case atStart => exact ⟨rfl, rfl⟩
                case round =>
                  obtain ⟨rfl, rfl⟩ := hrel
                  by_cases htl : 0 < us.length
                  · have htl' : (0 : Int) < (us.length : Int) := by omega
                    as_aux_lemma =>
                      obtain ⟨ss, h_ss⟩ : ∃ ss, ss = slS xs := ⟨_, rfl⟩
                      have HSS := Lib.hid h_ss
                      clear h_ss
                      obtain ⟨sn, h_sn⟩ : ∃ sn, sn = slN xs := ⟨_, rfl⟩
                      have HSN := Lib.hid h_sn
                      clear h_sn
                      obtain ⟨sb, h_sb⟩ : ∃ sb, sb = slB xs := ⟨_, rfl⟩
                      have HSB := Lib.hid h_sb
                      clear h_sb
                      go_wp2_with fail
                      refine (implSlowestClient_any A1 xs.length c1 xs _ rfl HR1.out (by omega) hW1.out hC1.out).mono ?_
                      rintro e w15 ⟨rfl, b⟩
                      rw [← HSS.out, ← HSN.out, ← HSB.out]
                      have Bw15 := Lib.hid (Bw14.out.trans (b.mono Bw14.out.size))
                      have HR1' := Lib.hid (HR1.out.below b)
                      clear HR1
                      have HR1 := HR1'
                      clear HR1'
                      clear b
                      go_wp2_with fail
                      refine (specSlowestClient_any A1 xs.length c1 xs _ rfl HR1.out (by omega) hW1.out hC1.out).mono ?_
                      rintro e w16 ⟨rfl, b⟩
                      rw [← HSS.out, ← HSN.out, ← HSB.out]
                      have Bw16 := Lib.hid (Bw15.out.trans (b.mono Bw15.out.size))
                      clear b
                      go_wp2_with fail
                      refine (D3.out _ (HY.out.below Bw16.out)).mono ?_
                      rintro e w17 ⟨ax, Ax, cx, Dx, dx, rfl, hds, hc1, hc2, r1, r2, b⟩
                      have Bw17 := Lib.hid (Bw16.out.trans (b.mono Bw16.out.size))
                      have HRA := Lib.hid r1
                      have HRD := Lib.hid r2
                      have HSM := Lib.hid hds.sm
                      have HCA : Hid (ax.client.size ≤ maxLen ∧ (ax.items.length ≤ cx ∧ cx ≤ maxLen) ∧ (ax.kept.length ≤ dx ∧ dx ≤ maxLen)) := Lib.hid ⟨by have := hds.1; unfold maxLen; omega, hc1, hc2⟩
                      clear r1 r2 hds hc1 hc2 b
                      obtain ⟨tx, h_tx⟩ : ∃ tx, tx = atV ax := ⟨_, rfl⟩
                      have HTX := Lib.hid h_tx
                      clear h_tx
                      obtain ⟨tb, h_tb⟩ : ∃ tb, tb = oneA ax := ⟨_, rfl⟩
                      have HTB := Lib.hid h_tb
                      clear h_tb
                      have HBA := Lib.hid (fun o => Bw17.out.alloc Bw17.out.size o)
                      have hsz := Bw17.out.size
                      go_wp2_with fail
                      refine (implApprovalText_any ax Ax cx Dx dx _ (HRA.out.alloc _) (HRD.out.alloc _) HSM.out HCA.out (fun w' h => HT.out w' ((HBA.out _).trans (h.mono (by simp; omega))))).mono ?_
                      rintro e we ⟨rfl, b⟩
                      rw [← HTX.out, ← HTB.out]
                      have HRA2 := Lib.hid ((HRA.out.alloc (.cells #[.int .i64 ax.id, .string ax.client, .int .i64 ax.sent, .slice Ax ax.items.length cx, .slice Dx ax.kept.length dx, .int .i64 ax.back] 34)).below b)
                      have HRD2 := Lib.hid ((HRD.out.alloc (.cells #[.int .i64 ax.id, .string ax.client, .int .i64 ax.sent, .slice Ax ax.items.length cx, .slice Dx ax.kept.length dx, .int .i64 ax.back] 34)).below b)
                      have hlt : w17.heap.size < we.heap.size := by have := b.size; simp at this; omega
                      have e0 := (b.cell (p := ⟨w17.heap.size, 0, none⟩) (by simp)).trans (World.cell?_alloc_at _ _ _ _ rfl)
                      have e1 := (b.cell (p := ⟨w17.heap.size, 1, none⟩) (by simp)).trans (World.cell?_alloc_at _ _ _ _ rfl)
                      have e2 := (b.cell (p := ⟨w17.heap.size, 2, none⟩) (by simp)).trans (World.cell?_alloc_at _ _ _ _ rfl)
                      have e3 := (b.cell (p := ⟨w17.heap.size, 3, none⟩) (by simp)).trans (World.cell?_alloc_at _ _ _ _ rfl)
                      have e4 := (b.cell (p := ⟨w17.heap.size, 4, none⟩) (by simp)).trans (World.cell?_alloc_at _ _ _ _ rfl)
                      have e5 := (b.cell (p := ⟨w17.heap.size, 5, none⟩) (by simp)).trans (World.cell?_alloc_at _ _ _ _ rfl)
                      have HBE := Lib.hid ((HBA.out (.cells #[.int .i64 ax.id, .string ax.client, .int .i64 ax.sent, .slice Ax ax.items.length cx, .slice Dx ax.kept.length dx, .int .i64 ax.back] 34)).trans (b.mono (by simp; omega)))
                      clear b HRA HRD
                      go_wp2_with fail
                      refine (specApprovalText_any ax Ax cx Dx dx _ HRA2.out HRD2.out HSM.out).mono ?_
                      rintro e wf ⟨rfl, b⟩
                      rw [← HTX.out, ← HTB.out]
                      have HBF := Lib.hid (HBE.out.trans (b.mono HBE.out.size))
                      clear b e0 e1 e2 e3 e4 e5
                      have hs1 : (ss.toList == ss.toList) = true := by simp
                      have hs2 : (tx.toList == tx.toList) = true := by simp
                      have hs3 : (sn == sn) = true := by simp
                      have hs4 : (sb == sb) = true := by simp
                      have hs5 : (tb == tb) = true := by simp
                      go_wp2
                      go_ret
                      exact ⟨by first | rfl | simp, HBF.out⟩
                  · have htl' : ¬ (0 : Int) < (us.length : Int) := by omega
                    have htl2 : (us.length : Int) ≤ 0 := by omega
                    as_aux_lemma =>
                      obtain ⟨ss, h_ss⟩ : ∃ ss, ss = slS xs := ⟨_, rfl⟩
                      have HSS := Lib.hid h_ss
                      clear h_ss
                      obtain ⟨sn, h_sn⟩ : ∃ sn, sn = slN xs := ⟨_, rfl⟩
                      have HSN := Lib.hid h_sn
                      clear h_sn
                      obtain ⟨sb, h_sb⟩ : ∃ sb, sb = slB xs := ⟨_, rfl⟩
                      have HSB := Lib.hid h_sb
                      clear h_sb
                      go_wp2_with fail
                      refine (implSlowestClient_any A1 xs.length c1 xs _ rfl HR1.out (by omega) hW1.out hC1.out).mono ?_
                      rintro e w18 ⟨rfl, b⟩
                      rw [← HSS.out, ← HSN.out, ← HSB.out]
                      have Bw18 := Lib.hid (Bw14.out.trans (b.mono Bw14.out.size))
                      have HR1' := Lib.hid (HR1.out.below b)
                      clear HR1
                      have HR1 := HR1'
                      clear HR1'
                      clear b
                      go_wp2_with fail
                      refine (specSlowestClient_any A1 xs.length c1 xs _ rfl HR1.out (by omega) hW1.out hC1.out).mono ?_
                      rintro e w19 ⟨rfl, b⟩
                      rw [← HSS.out, ← HSN.out, ← HSB.out]
                      have Bw19 := Lib.hid (Bw18.out.trans (b.mono Bw18.out.size))
                      clear b
                      go_wp2_with fail
                      refine (D3.out _ (HY.out.below Bw19.out)).mono ?_
                      rintro e w20 ⟨ax, Ax, cx, Dx, dx, rfl, hds, hc1, hc2, r1, r2, b⟩
                      have Bw20 := Lib.hid (Bw19.out.trans (b.mono Bw19.out.size))
                      have HRA := Lib.hid r1
                      have HRD := Lib.hid r2
                      have HSM := Lib.hid hds.sm
                      have HCA : Hid (ax.client.size ≤ maxLen ∧ (ax.items.length ≤ cx ∧ cx ≤ maxLen) ∧ (ax.kept.length ≤ dx ∧ dx ≤ maxLen)) := Lib.hid ⟨by have := hds.1; unfold maxLen; omega, hc1, hc2⟩
                      clear r1 r2 hds hc1 hc2 b
                      obtain ⟨tx, h_tx⟩ : ∃ tx, tx = atV ax := ⟨_, rfl⟩
                      have HTX := Lib.hid h_tx
                      clear h_tx
                      obtain ⟨tb, h_tb⟩ : ∃ tb, tb = oneA ax := ⟨_, rfl⟩
                      have HTB := Lib.hid h_tb
                      clear h_tb
                      have HBA := Lib.hid (fun o => Bw20.out.alloc Bw20.out.size o)
                      have hsz := Bw20.out.size
                      go_wp2_with fail
                      refine (implApprovalText_any ax Ax cx Dx dx _ (HRA.out.alloc _) (HRD.out.alloc _) HSM.out HCA.out (fun w' h => HT.out w' ((HBA.out _).trans (h.mono (by simp; omega))))).mono ?_
                      rintro e we ⟨rfl, b⟩
                      rw [← HTX.out, ← HTB.out]
                      have HRA2 := Lib.hid ((HRA.out.alloc (.cells #[.int .i64 ax.id, .string ax.client, .int .i64 ax.sent, .slice Ax ax.items.length cx, .slice Dx ax.kept.length dx, .int .i64 ax.back] 34)).below b)
                      have HRD2 := Lib.hid ((HRD.out.alloc (.cells #[.int .i64 ax.id, .string ax.client, .int .i64 ax.sent, .slice Ax ax.items.length cx, .slice Dx ax.kept.length dx, .int .i64 ax.back] 34)).below b)
                      have hlt : w20.heap.size < we.heap.size := by have := b.size; simp at this; omega
                      have e0 := (b.cell (p := ⟨w20.heap.size, 0, none⟩) (by simp)).trans (World.cell?_alloc_at _ _ _ _ rfl)
                      have e1 := (b.cell (p := ⟨w20.heap.size, 1, none⟩) (by simp)).trans (World.cell?_alloc_at _ _ _ _ rfl)
                      have e2 := (b.cell (p := ⟨w20.heap.size, 2, none⟩) (by simp)).trans (World.cell?_alloc_at _ _ _ _ rfl)
                      have e3 := (b.cell (p := ⟨w20.heap.size, 3, none⟩) (by simp)).trans (World.cell?_alloc_at _ _ _ _ rfl)
                      have e4 := (b.cell (p := ⟨w20.heap.size, 4, none⟩) (by simp)).trans (World.cell?_alloc_at _ _ _ _ rfl)
                      have e5 := (b.cell (p := ⟨w20.heap.size, 5, none⟩) (by simp)).trans (World.cell?_alloc_at _ _ _ _ rfl)
                      have HBE := Lib.hid ((HBA.out (.cells #[.int .i64 ax.id, .string ax.client, .int .i64 ax.sent, .slice Ax ax.items.length cx, .slice Dx ax.kept.length dx, .int .i64 ax.back] 34)).trans (b.mono (by simp; omega)))
                      clear b HRA HRD
                      go_wp2_with fail
                      refine (specApprovalText_any ax Ax cx Dx dx _ HRA2.out HRD2.out HSM.out).mono ?_
                      rintro e wf ⟨rfl, b⟩
                      rw [← HTX.out, ← HTB.out]
                      have HBF := Lib.hid (HBE.out.trans (b.mono HBE.out.size))
                      clear b e0 e1 e2 e3 e4 e5
                      have hs1 : (ss.toList == ss.toList) = true := by simp
                      have hs2 : (tx.toList == tx.toList) = true := by simp
                      have hs3 : (sn == sn) = true := by simp
                      have hs4 : (sb == sb) = true := by simp
                      have hs5 : (tb == tb) = true := by simp
                      go_wp2
                      go_ret
                      exact ⟨by first | rfl | simp, HBF.out⟩
              | true =>
                have F4 : Hid (∀ (i : Nat) (x : AR), us[i]? = some x → hasB OD x.id = true → one = true ∧ ∃ z, x.items[0]? = some z ∧ hasB IO z = true) := Lib.hid (fun i x h h2 => by rw [HON.out, HIO.out]; rw [HOD.out] at h2; exact od_fact HKW.out.symm h h2)
                go_wp2_with fail
                go_loopw [34] (fun i wr => ∃ t : Nat, i = .int .i64 t ∧ t ≤ us.length ∧ w14 = wr) (fun i _ => us.length - (intOf i).toNat)
                case atStart => exact ⟨0, rfl, by omega, rfl⟩
                case round =>
                  obtain ⟨t, rfl, ht, rfl⟩ := hrel
                  by_cases htl : t < us.length
                  · have htl' : (t : Int) < (us.length : Int) := by omega
                    obtain ⟨y, ey⟩ : ∃ y, us[t]? = some y := ⟨_, List.getElem?_eq_getElem htl⟩
                    have ht0 : (0 : Int) ≤ (t : Int) := by omega
                    obtain ⟨gy, oy, By, cy, Dy, dy, eA, hrow⟩ := HR6.out.at ey
                    subst eA
                    have HROW := Lib.hid hrow
                    have y0 := hrow.c0
                    have hgy := hrow.lt
                    have F5 := Lib.hid (F4.out t y ey)
                    clear hrow ey
                    go_wp2_with fail
                    refine (rHas_any A7 OD.length c7 OD y.id _ rfl HI7.out hODn).mono ?_
                    rintro e wb ⟨rfl, rfl⟩
                    cases hh : hasB OD y.id with
                    | false =>
                      clear hh
                      go_wp2
                      go_roundw
                      case rel => exact ⟨t + 1, by go_num, by omega, by first | rfl | trivial⟩
                      case measure => simp [intOf]; omega
                    | true =>
                      obtain ⟨h1, z, ez, hz⟩ := F5.out hh
                      have HZ := Lib.hid hz
                      have hil := (List.getElem?_eq_some_iff.1 ez).1
                      have hil' : (0 : Int) < (y.items.length : Int) := by omega
                      have hie : ((y.items.length : Int) == 0) = false := by rw [beq_eq_false_iff_ne]; omega
                      obtain ⟨gz, oz, eB, hgz, cz⟩ := HROW.out.rB.at1 ez
                      rw [Nat.add_zero] at cz
                      subst eB
                      have y3 := HROW.out.c3
                      clear hh ez hz F5 F4 HON HROW
                      subst h1
                      go_wp2_with fail
                      refine (rHas_any A9 IO.length c9 IO z _ rfl HI9.out hIOn).mono ?_
                      rintro e wc ⟨rfl, rfl⟩
                      rw [HZ.out]
                      go_wp2
                      go_roundw
                      case rel => exact ⟨t + 1, by go_num, by omega, by first | rfl | trivial⟩
                      case measure => simp [intOf]; omega
                  · obtain rfl : t = us.length := by omega
                    clear F4 ht htl
                    as_aux_lemma =>
                      obtain ⟨ss, h_ss⟩ : ∃ ss, ss = slS xs := ⟨_, rfl⟩
                      have HSS := Lib.hid h_ss
                      clear h_ss
                      obtain ⟨sn, h_sn⟩ : ∃ sn, sn = slN xs := ⟨_, rfl⟩
                      have HSN := Lib.hid h_sn
                      clear h_sn
                      obtain ⟨sb, h_sb⟩ : ∃ sb, sb = slB xs := ⟨_, rfl⟩
                      have HSB := Lib.hid h_sb
                      clear h_sb
                      go_wp2_with fail
                      refine (implSlowestClient_any A1 xs.length c1 xs _ rfl HR1.out (by omega) hW1.out hC1.out).mono ?_
                      rintro e w21 ⟨rfl, b⟩
                      rw [← HSS.out, ← HSN.out, ← HSB.out]
                      have Bw21 := Lib.hid (Bw14.out.trans (b.mono Bw14.out.size))
                      have HR1' := Lib.hid (HR1.out.below b)
                      clear HR1
                      have HR1 := HR1'
                      clear HR1'
                      clear b
                      go_wp2_with fail
                      refine (specSlowestClient_any A1 xs.length c1 xs _ rfl HR1.out (by omega) hW1.out hC1.out).mono ?_
                      rintro e w22 ⟨rfl, b⟩
                      rw [← HSS.out, ← HSN.out, ← HSB.out]
                      have Bw22 := Lib.hid (Bw21.out.trans (b.mono Bw21.out.size))
                      clear b
                      go_wp2_with fail
                      refine (D3.out _ (HY.out.below Bw22.out)).mono ?_
                      rintro e w23 ⟨ax, Ax, cx, Dx, dx, rfl, hds, hc1, hc2, r1, r2, b⟩
                      have Bw23 := Lib.hid (Bw22.out.trans (b.mono Bw22.out.size))
                      have HRA := Lib.hid r1
                      have HRD := Lib.hid r2
                      have HSM := Lib.hid hds.sm
                      have HCA : Hid (ax.client.size ≤ maxLen ∧ (ax.items.length ≤ cx ∧ cx ≤ maxLen) ∧ (ax.kept.length ≤ dx ∧ dx ≤ maxLen)) := Lib.hid ⟨by have := hds.1; unfold maxLen; omega, hc1, hc2⟩
                      clear r1 r2 hds hc1 hc2 b
                      obtain ⟨tx, h_tx⟩ : ∃ tx, tx = atV ax := ⟨_, rfl⟩
                      have HTX := Lib.hid h_tx
                      clear h_tx
                      obtain ⟨tb, h_tb⟩ : ∃ tb, tb = oneA ax := ⟨_, rfl⟩
                      have HTB := Lib.hid h_tb
                      clear h_tb
                      have HBA := Lib.hid (fun o => Bw23.out.alloc Bw23.out.size o)
                      have hsz := Bw23.out.size
                      go_wp2_with fail
                      refine (implApprovalText_any ax Ax cx Dx dx _ (HRA.out.alloc _) (HRD.out.alloc _) HSM.out HCA.out (fun w' h => HT.out w' ((HBA.out _).trans (h.mono (by simp; omega))))).mono ?_
                      rintro e we ⟨rfl, b⟩
                      rw [← HTX.out, ← HTB.out]
                      have HRA2 := Lib.hid ((HRA.out.alloc (.cells #[.int .i64 ax.id, .string ax.client, .int .i64 ax.sent, .slice Ax ax.items.length cx, .slice Dx ax.kept.length dx, .int .i64 ax.back] 34)).below b)
                      have HRD2 := Lib.hid ((HRD.out.alloc (.cells #[.int .i64 ax.id, .string ax.client, .int .i64 ax.sent, .slice Ax ax.items.length cx, .slice Dx ax.kept.length dx, .int .i64 ax.back] 34)).below b)
                      have hlt : w23.heap.size < we.heap.size := by have := b.size; simp at this; omega
                      have e0 := (b.cell (p := ⟨w23.heap.size, 0, none⟩) (by simp)).trans (World.cell?_alloc_at _ _ _ _ rfl)
                      have e1 := (b.cell (p := ⟨w23.heap.size, 1, none⟩) (by simp)).trans (World.cell?_alloc_at _ _ _ _ rfl)
                      have e2 := (b.cell (p := ⟨w23.heap.size, 2, none⟩) (by simp)).trans (World.cell?_alloc_at _ _ _ _ rfl)
                      have e3 := (b.cell (p := ⟨w23.heap.size, 3, none⟩) (by simp)).trans (World.cell?_alloc_at _ _ _ _ rfl)
                      have e4 := (b.cell (p := ⟨w23.heap.size, 4, none⟩) (by simp)).trans (World.cell?_alloc_at _ _ _ _ rfl)
                      have e5 := (b.cell (p := ⟨w23.heap.size, 5, none⟩) (by simp)).trans (World.cell?_alloc_at _ _ _ _ rfl)
                      have HBE := Lib.hid ((HBA.out (.cells #[.int .i64 ax.id, .string ax.client, .int .i64 ax.sent, .slice Ax ax.items.length cx, .slice Dx ax.kept.length dx, .int .i64 ax.back] 34)).trans (b.mono (by simp; omega)))
                      clear b HRA HRD
                      go_wp2_with fail
                      refine (specApprovalText_any ax Ax cx Dx dx _ HRA2.out HRD2.out HSM.out).mono ?_
                      rintro e wf ⟨rfl, b⟩
                      rw [← HTX.out, ← HTB.out]
                      have HBF := Lib.hid (HBE.out.trans (b.mono HBE.out.size))
                      clear b e0 e1 e2 e3 e4 e5
                      have hs1 : (ss.toList == ss.toList) = true := by simp
                      have hs2 : (tx.toList == tx.toList) = true := by simp
                      have hs3 : (sn == sn) = true := by simp
                      have hs4 : (sb == sb) = true := by simp
                      have hs5 : (tb == tb) = true := by simp
                      go_wp2
                      go_ret
                      exact ⟨by first | rfl | simp, HBF.out⟩
      | true =>
        have F2 : Hid (∀ x ∈ xs, ∀ z ∈ x.items, hasB UN z = !unQ xs z) := Lib.hid (fun x hx z hz => by rw [HUN.out]; exact un_iff HFI.out.symm hx hz)
        go_wp2_with fail
        go_loopw [14, 15, 16, 17, 18] (fun i _ _ _ _ wr => ∃ t : Nat, i = .int .i64 t ∧ t ≤ xs.length ∧ w7 = wr) (fun i _ _ _ _ _ => xs.length - (intOf i).toNat)
        case atStart => exact ⟨0, rfl, by omega, rfl⟩
        case round =>
          obtain ⟨t, rfl, ht, rfl⟩ := hrel
          by_cases htl : t < xs.length
          · have htl' : (t : Int) < (xs.length : Int) := by omega
            obtain ⟨y, ey⟩ : ∃ y, xs[t]? = some y := ⟨_, List.getElem?_eq_getElem htl⟩
            have ht0 : (0 : Int) ≤ (t : Int) := by omega
            have hym := List.mem_of_getElem? ey
            have hyn := (hW1.out y hym).2.1
            have F3 := Lib.hid (F2.out y hym)
            obtain ⟨gy, oy, By, cy, Dy, dy, eA, hrow⟩ := HR1.out.at ey
            subst eA
            have HROW := Lib.hid hrow
            have y3 := hrow.c3
            have hgy := hrow.lt
            clear hrow ey hym
            go_wp2_with fail
            go_loopw [15, 16, 17, 18] (fun i _ _ _ wr => ∃ s : Nat, i = .int .i64 s ∧ s ≤ y.items.length ∧ w7 = wr) (fun i _ _ _ _ => y.items.length - (intOf i).toNat)
            case atStart => exact ⟨0, rfl, by omega, rfl⟩
            case round =>
              obtain ⟨s, rfl, hs, rfl⟩ := hrel
              by_cases hsl : s < y.items.length
              · have hsl' : (s : Int) < (y.items.length : Int) := by omega
                obtain ⟨z, ez⟩ : ∃ z, y.items[s]? = some z := ⟨_, List.getElem?_eq_getElem hsl⟩
                have HZ := Lib.hid (F3.out z (List.mem_of_getElem? ez))
                have hs0 : (0 : Int) ≤ (s : Int) := by omega
                obtain ⟨gz, oz, eB, hgz, cz⟩ := HROW.out.rB.at1 ez
                subst eB
                clear ez
                go_wp2_with fail
                clear cz y3
                go_loopw [17, 18] (fun s i wr => ∃ q : Nat, i = .int .i64 q ∧ q ≤ xs.length ∧ s = .bool ((xs.take q).any (fun x => hasB x.kept z)) ∧ w7 = wr) (fun _ i _ => xs.length - (intOf i).toNat)
                case atStart => exact ⟨0, rfl, by omega, by simp, rfl⟩
                case round =>
                  obtain ⟨q, rfl, hq, rfl, rfl⟩ := hrel
                  obtain ⟨sd, hsd⟩ : ∃ sd, sd = (xs.take q).any (fun x => hasB x.kept z) := ⟨_, rfl⟩
                  rw [← hsd]
                  have HSD := Lib.hid hsd
                  clear hsd
                  by_cases hql : q < xs.length
                  · have hql' : (q : Int) < (xs.length : Int) := by omega
                    obtain ⟨y2, ey2⟩ : ∃ y2, xs[q]? = some y2 := ⟨_, List.getElem?_eq_getElem hql⟩
                    have hq0 : (0 : Int) ≤ (q : Int) := by omega
                    have hkn := (hW1.out y2 (List.mem_of_getElem? ey2)).2.2
                    have hst : (xs.take (q + 1)).any (fun x => hasB x.kept z) = (sd || hasB y2.kept z) := by rw [HSD.out, List.take_add_one, ey2, List.any_append]; simp
                    have HST := Lib.hid hst
                    obtain ⟨g2, o2, B2, c22, D2x, d2x, eA2, hrow2⟩ := HR1.out.at ey2
                    injection eA2 with eA2
                    injection eA2 with e21 e22
                    subst e21
                    subst e22
                    have x4 := hrow2.c4
                    have HRD := Lib.hid hrow2.rD
                    clear hrow2 ey2 hst
                    cases sd with
                    | true =>
                      have HSU := Lib.hid HST.out
                      clear HST
                      rw [Bool.true_or] at HSU
                      go_wp2
                      go_roundw
                      case rel => exact ⟨q + 1, by go_num, by omega, by rw [HSU.out], by first | rfl | trivial⟩
                      case measure => simp [intOf]; omega
                    | false =>
                      have HSU := Lib.hid HST.out
                      clear HST
                      rw [Bool.false_or] at HSU
                      go_wp2_with fail
                      refine (rHas_any D2x y2.kept.length d2x y2.kept z _ rfl HRD.out hkn).mono ?_
                      rintro e wb ⟨rfl, rfl⟩
                      go_wp2
                      go_roundw
                      case rel => exact ⟨q + 1, by go_num, by omega, by rw [HSU.out], by first | rfl | trivial⟩
                      case measure => simp [intOf]; omega
                  · obtain rfl : q = xs.length := by omega
                    have hun : hasB UN z = !sd := by rw [HZ.out, HSD.out, List.take_length]; rfl
                    have HUZ := Lib.hid hun
                    clear hun
                    cases sd with
                    | true =>
                      go_wp2_with fail
                      refine (rHas_any A4 UN.length c4 UN z _ rfl HI4.out hUNn).mono ?_
                      rintro e wb ⟨rfl, rfl⟩
                      rw [HUZ.out]
                      go_wp2
                      go_roundw
                      case rel => exact ⟨s + 1, by go_num, by omega, by first | rfl | trivial⟩
                      case measure => simp [intOf]; omega
                    | false =>
                      go_wp2_with fail
                      refine (rHas_any A4 UN.length c4 UN z _ rfl HI4.out hUNn).mono ?_
                      rintro e wb ⟨rfl, rfl⟩
                      rw [HUZ.out]
                      go_wp2
                      go_roundw
                      case rel => exact ⟨s + 1, by go_num, by omega, by first | rfl | trivial⟩
                      case measure => simp [intOf]; omega
              · obtain rfl : s = y.items.length := by omega
                go_wp2
                go_roundw
                case rel => exact ⟨t + 1, by go_num, by omega, by first | rfl | trivial⟩
                case measure => simp [intOf]; omega
          · obtain rfl : t = xs.length := by omega
            clear F2 ht htl
            as_aux_lemma =>
              obtain ⟨kn, h_kn⟩ : ∃ kn, kn = ksN xs cl := ⟨_, rfl⟩
              have HKN := Lib.hid h_kn
              clear h_kn
              obtain ⟨kd, h_kd⟩ : ∃ kd, kd = ksD xs cl := ⟨_, rfl⟩
              have HKD := Lib.hid h_kd
              clear h_kd
              obtain ⟨kb, h_kb⟩ : ∃ kb, kb = ksB xs cl := ⟨_, rfl⟩
              have HKB := Lib.hid h_kb
              clear h_kb
              have hknn : (kn != kn) = false := by simp
              have hkdd : (kd != kd) = false := by simp
              go_wp2_with fail
              refine (implKeepShare_any A1 xs.length c1 xs cl _ rfl HR1.out (by omega) hW1.out hC1.out hcl2).mono ?_
              rintro e w24 ⟨rfl, b⟩
              rw [← HKN.out, ← HKD.out, ← HKB.out]
              have Bw24 := Lib.hid (Bw7.out.trans (b.mono Bw7.out.size))
              have HR1' := Lib.hid (HR1.out.below b)
              clear HR1
              have HR1 := HR1'
              clear HR1'
              clear b
              go_wp2_with fail
              refine (specKeepShare_any A1 xs.length c1 xs cl _ rfl HR1.out (by omega) hW1.out hC1.out hcl2).mono ?_
              rintro e w25 ⟨rfl, b⟩
              rw [← HKN.out, ← HKD.out, ← HKB.out]
              have Bw25 := Lib.hid (Bw24.out.trans (b.mono Bw24.out.size))
              have HR1' := Lib.hid (HR1.out.below b)
              clear HR1
              have HR1 := HR1'
              clear HR1'
              clear b
              cases kb with
              | false =>
                as_aux_lemma =>
                  go_wp2_with fail
                  refine (D2.out _ (HY.out.below Bw25.out)).mono ?_
                  rintro e w26 ⟨v6, us, day, most, rfl, hl, b⟩
                  have Bw26 := Lib.hid (Bw25.out.trans (b.mono Bw25.out.size))
                  have HR1' := Lib.hid (HR1.out.below b)
                  clear HR1
                  have HR1 := HR1'
                  clear HR1'
                  obtain ⟨A6, c6, rfl, r6, hp6, hq6⟩ := hl.form
                  have hl6 := hl.len
                  have hw6 := Lib.hid hl.ds
                  have HR6 := Lib.hid r6
                  clear r6 hl b
                  have hW6 : Hid (∀ x ∈ us, smA x) := Lib.hid (fun x hx => (hw6.out x hx).sm)
                  have HD6 := hw6
                  clear hw6
                  have hC6 := Lib.hid (And.intro hp6 hq6)
                  clear hp6 hq6
                  obtain ⟨known, h_known⟩ : ∃ known, known = odB us day most := ⟨_, rfl⟩
                  have HKW := Lib.hid h_known
                  clear h_known
                  obtain ⟨OD, h_OD⟩ : ∃ OD, OD = odV us day most := ⟨_, rfl⟩
                  have HOD := Lib.hid h_OD
                  clear h_OD
                  obtain ⟨one, h_one⟩ : ∃ one, one = ioB us day := ⟨_, rfl⟩
                  have HON := Lib.hid h_one
                  clear h_one
                  obtain ⟨IO, h_IO⟩ : ∃ IO, IO = ioV us day := ⟨_, rfl⟩
                  have HIO := Lib.hid h_IO
                  clear h_IO
                  have hODn : OD.length ≤ 1048576 := by rw [HOD.out]; exact odV_len us day most
                  have hIOn : IO.length ≤ 1048576 := by rw [HIO.out]; exact ioV_len us day
                  go_wp2_with fail
                  refine (implOverdueIds_any A6 us.length c6 us day most _ rfl HR6.out (by omega) hW6.out hC6.out).mono ?_
                  rintro e w27 ⟨v7, rfl, o, b⟩
                  rw [← HKW.out]
                  rw [← HOD.out] at o
                  obtain ⟨A7, c7, rfl⟩ := own_form o
                  have Bw27 := Lib.hid (Bw26.out.trans (b.mono Bw26.out.size))
                  have HR1' := Lib.hid (HR1.out.below b)
                  clear HR1
                  have HR1 := HR1'
                  clear HR1'
                  have HR6' := Lib.hid (HR6.out.below b)
                  clear HR6
                  have HR6 := HR6'
                  clear HR6'
                  have HI7 := Lib.hid (Rd.of_own o)
                  clear o b
                  go_wp2_with fail
                  refine (specOverdueIds_any A6 us.length c6 us day most _ rfl HR6.out (by omega) hW6.out hC6.out).mono ?_
                  rintro e w28 ⟨v8, rfl, o, b⟩
                  rw [← HKW.out]
                  rw [← HOD.out] at o
                  obtain ⟨A8, c8, rfl⟩ := own_form o
                  have Bw28 := Lib.hid (Bw27.out.trans (b.mono Bw27.out.size))
                  have HR1' := Lib.hid (HR1.out.below b)
                  clear HR1
                  have HR1 := HR1'
                  clear HR1'
                  have HR6' := Lib.hid (HR6.out.below b)
                  clear HR6
                  have HR6 := HR6'
                  clear HR6'
                  have HI7' := Lib.hid (HI7.out.below b)
                  clear HI7
                  have HI7 := HI7'
                  clear HI7'
                  have HI8 := Lib.hid (Rd.of_own o)
                  clear o b
                  go_wp2_with fail
                  refine (rInts_same _ _ _ _ _ OD _ rfl HI7.out HI8.out hODn).mono ?_
                  rintro e w29 ⟨rfl, b⟩
                  have Bw29 := Lib.hid (Bw28.out.trans (b.mono Bw28.out.size))
                  have HR1' := Lib.hid (HR1.out.below b)
                  clear HR1
                  have HR1 := HR1'
                  clear HR1'
                  have HR6' := Lib.hid (HR6.out.below b)
                  clear HR6
                  have HR6 := HR6'
                  clear HR6'
                  have HI7' := Lib.hid (HI7.out.below b)
                  clear HI7
                  have HI7 := HI7'
                  clear HI7'
                  clear b
                  go_wp2_with fail
                  refine (implItemsOut_any A6 us.length c6 us day _ rfl HR6.out (by omega) hW6.out hC6.out).mono ?_
                  rintro e w30 ⟨v9, rfl, o, b⟩
                  rw [← HON.out]
                  rw [← HIO.out] at o
                  obtain ⟨A9, c9, rfl⟩ := own_form o
                  have Bw30 := Lib.hid (Bw29.out.trans (b.mono Bw29.out.size))
                  have HR1' := Lib.hid (HR1.out.below b)
                  clear HR1
                  have HR1 := HR1'
                  clear HR1'
                  have HR6' := Lib.hid (HR6.out.below b)
                  clear HR6
                  have HR6 := HR6'
                  clear HR6'
                  have HI7' := Lib.hid (HI7.out.below b)
                  clear HI7
                  have HI7 := HI7'
                  clear HI7'
                  have HI9 := Lib.hid (Rd.of_own o)
                  clear o b
                  cases known with
                  | false =>
                    go_wp2_with fail
                    go_loopw [34] (fun i wr => i = .int .i64 0 ∧ w30 = wr) (fun i _ => us.length - (intOf i).toNat)
                    case atStart => exact ⟨rfl, rfl⟩
                    case round =>
                      obtain ⟨rfl, rfl⟩ := hrel
                      by_cases htl : 0 < us.length
                      · have htl' : (0 : Int) < (us.length : Int) := by omega
                        as_aux_lemma =>
                          obtain ⟨ss, h_ss⟩ : ∃ ss, ss = slS xs := ⟨_, rfl⟩
                          have HSS := Lib.hid h_ss
                          clear h_ss
                          obtain ⟨sn, h_sn⟩ : ∃ sn, sn = slN xs := ⟨_, rfl⟩
                          have HSN := Lib.hid h_sn
                          clear h_sn
                          obtain ⟨sb, h_sb⟩ : ∃ sb, sb = slB xs := ⟨_, rfl⟩
                          have HSB := Lib.hid h_sb
                          clear h_sb
                          go_wp2_with fail
                          refine (implSlowestClient_any A1 xs.length c1 xs _ rfl HR1.out (by omega) hW1.out hC1.out).mono ?_
                          rintro e w31 ⟨rfl, b⟩
                          rw [← HSS.out, ← HSN.out, ← HSB.out]
                          have Bw31 := Lib.hid (Bw30.out.trans (b.mono Bw30.out.size))
                          have HR1' := Lib.hid (HR1.out.below b)
                          clear HR1
                          have HR1 := HR1'
                          clear HR1'
                          clear b
                          go_wp2_with fail
                          refine (specSlowestClient_any A1 xs.length c1 xs _ rfl HR1.out (by omega) hW1.out hC1.out).mono ?_
                          rintro e w32 ⟨rfl, b⟩
                          rw [← HSS.out, ← HSN.out, ← HSB.out]
                          have Bw32 := Lib.hid (Bw31.out.trans (b.mono Bw31.out.size))
                          clear b
                          go_wp2_with fail
                          refine (D3.out _ (HY.out.below Bw32.out)).mono ?_
                          rintro e w33 ⟨ax, Ax, cx, Dx, dx, rfl, hds, hc1, hc2, r1, r2, b⟩
                          have Bw33 := Lib.hid (Bw32.out.trans (b.mono Bw32.out.size))
                          have HRA := Lib.hid r1
                          have HRD := Lib.hid r2
                          have HSM := Lib.hid hds.sm
                          have HCA : Hid (ax.client.size ≤ maxLen ∧ (ax.items.length ≤ cx ∧ cx ≤ maxLen) ∧ (ax.kept.length ≤ dx ∧ dx ≤ maxLen)) := Lib.hid ⟨by have := hds.1; unfold maxLen; omega, hc1, hc2⟩
                          clear r1 r2 hds hc1 hc2 b
                          obtain ⟨tx, h_tx⟩ : ∃ tx, tx = atV ax := ⟨_, rfl⟩
                          have HTX := Lib.hid h_tx
                          clear h_tx
                          obtain ⟨tb, h_tb⟩ : ∃ tb, tb = oneA ax := ⟨_, rfl⟩
                          have HTB := Lib.hid h_tb
                          clear h_tb
                          have HBA := Lib.hid (fun o => Bw33.out.alloc Bw33.out.size o)
                          have hsz := Bw33.out.size
                          go_wp2_with fail
                          refine (implApprovalText_any ax Ax cx Dx dx _ (HRA.out.alloc _) (HRD.out.alloc _) HSM.out HCA.out (fun w' h => HT.out w' ((HBA.out _).trans (h.mono (by simp; omega))))).mono ?_
                          rintro e we ⟨rfl, b⟩
                          rw [← HTX.out, ← HTB.out]
                          have HRA2 := Lib.hid ((HRA.out.alloc (.cells #[.int .i64 ax.id, .string ax.client, .int .i64 ax.sent, .slice Ax ax.items.length cx, .slice Dx ax.kept.length dx, .int .i64 ax.back] 34)).below b)
                          have HRD2 := Lib.hid ((HRD.out.alloc (.cells #[.int .i64 ax.id, .string ax.client, .int .i64 ax.sent, .slice Ax ax.items.length cx, .slice Dx ax.kept.length dx, .int .i64 ax.back] 34)).below b)
                          have hlt : w33.heap.size < we.heap.size := by have := b.size; simp at this; omega
                          have e0 := (b.cell (p := ⟨w33.heap.size, 0, none⟩) (by simp)).trans (World.cell?_alloc_at _ _ _ _ rfl)
                          have e1 := (b.cell (p := ⟨w33.heap.size, 1, none⟩) (by simp)).trans (World.cell?_alloc_at _ _ _ _ rfl)
                          have e2 := (b.cell (p := ⟨w33.heap.size, 2, none⟩) (by simp)).trans (World.cell?_alloc_at _ _ _ _ rfl)
                          have e3 := (b.cell (p := ⟨w33.heap.size, 3, none⟩) (by simp)).trans (World.cell?_alloc_at _ _ _ _ rfl)
                          have e4 := (b.cell (p := ⟨w33.heap.size, 4, none⟩) (by simp)).trans (World.cell?_alloc_at _ _ _ _ rfl)
                          have e5 := (b.cell (p := ⟨w33.heap.size, 5, none⟩) (by simp)).trans (World.cell?_alloc_at _ _ _ _ rfl)
                          have HBE := Lib.hid ((HBA.out (.cells #[.int .i64 ax.id, .string ax.client, .int .i64 ax.sent, .slice Ax ax.items.length cx, .slice Dx ax.kept.length dx, .int .i64 ax.back] 34)).trans (b.mono (by simp; omega)))
                          clear b HRA HRD
                          go_wp2_with fail
                          refine (specApprovalText_any ax Ax cx Dx dx _ HRA2.out HRD2.out HSM.out).mono ?_
                          rintro e wf ⟨rfl, b⟩
                          rw [← HTX.out, ← HTB.out]
                          have HBF := Lib.hid (HBE.out.trans (b.mono HBE.out.size))
                          clear b e0 e1 e2 e3 e4 e5
                          have hs1 : (ss.toList == ss.toList) = true := by simp
                          have hs2 : (tx.toList == tx.toList) = true := by simp
                          have hs3 : (sn == sn) = true := by simp
                          have hs4 : (sb == sb) = true := by simp
                          have hs5 : (tb == tb) = true := by simp
                          go_wp2
                          go_ret
                          exact ⟨by first | rfl | simp, HBF.out⟩
                      · have htl' : ¬ (0 : Int) < (us.length : Int) := by omega
                        have htl2 : (us.length : Int) ≤ 0 := by omega
                        as_aux_lemma =>
                          obtain ⟨ss, h_ss⟩ : ∃ ss, ss = slS xs := ⟨_, rfl⟩
                          have HSS := Lib.hid h_ss
                          clear h_ss
                          obtain ⟨sn, h_sn⟩ : ∃ sn, sn = slN xs := ⟨_, rfl⟩
                          have HSN := Lib.hid h_sn
                          clear h_sn
                          obtain ⟨sb, h_sb⟩ : ∃ sb, sb = slB xs := ⟨_, rfl⟩
                          have HSB := Lib.hid h_sb
                          clear h_sb
                          go_wp2_with fail
                          refine (implSlowestClient_any A1 xs.length c1 xs _ rfl HR1.out (by omega) hW1.out hC1.out).mono ?_
                          rintro e w34 ⟨rfl, b⟩
                          rw [← HSS.out, ← HSN.out, ← HSB.out]
                          have Bw34 := Lib.hid (Bw30.out.trans (b.mono Bw30.out.size))
                          have HR1' := Lib.hid (HR1.out.below b)
                          clear HR1
                          have HR1 := HR1'
                          clear HR1'
                          clear b
                          go_wp2_with fail
                          refine (specSlowestClient_any A1 xs.length c1 xs _ rfl HR1.out (by omega) hW1.out hC1.out).mono ?_
                          rintro e w35 ⟨rfl, b⟩
                          rw [← HSS.out, ← HSN.out, ← HSB.out]
                          have Bw35 := Lib.hid (Bw34.out.trans (b.mono Bw34.out.size))
                          clear b
                          go_wp2_with fail
                          refine (D3.out _ (HY.out.below Bw35.out)).mono ?_
                          rintro e w36 ⟨ax, Ax, cx, Dx, dx, rfl, hds, hc1, hc2, r1, r2, b⟩
                          have Bw36 := Lib.hid (Bw35.out.trans (b.mono Bw35.out.size))
                          have HRA := Lib.hid r1
                          have HRD := Lib.hid r2
                          have HSM := Lib.hid hds.sm
                          have HCA : Hid (ax.client.size ≤ maxLen ∧ (ax.items.length ≤ cx ∧ cx ≤ maxLen) ∧ (ax.kept.length ≤ dx ∧ dx ≤ maxLen)) := Lib.hid ⟨by have := hds.1; unfold maxLen; omega, hc1, hc2⟩
                          clear r1 r2 hds hc1 hc2 b
                          obtain ⟨tx, h_tx⟩ : ∃ tx, tx = atV ax := ⟨_, rfl⟩
                          have HTX := Lib.hid h_tx
                          clear h_tx
                          obtain ⟨tb, h_tb⟩ : ∃ tb, tb = oneA ax := ⟨_, rfl⟩
                          have HTB := Lib.hid h_tb
                          clear h_tb
                          have HBA := Lib.hid (fun o => Bw36.out.alloc Bw36.out.size o)
                          have hsz := Bw36.out.size
                          go_wp2_with fail
                          refine (implApprovalText_any ax Ax cx Dx dx _ (HRA.out.alloc _) (HRD.out.alloc _) HSM.out HCA.out (fun w' h => HT.out w' ((HBA.out _).trans (h.mono (by simp; omega))))).mono ?_
                          rintro e we ⟨rfl, b⟩
                          rw [← HTX.out, ← HTB.out]
                          have HRA2 := Lib.hid ((HRA.out.alloc (.cells #[.int .i64 ax.id, .string ax.client, .int .i64 ax.sent, .slice Ax ax.items.length cx, .slice Dx ax.kept.length dx, .int .i64 ax.back] 34)).below b)
                          have HRD2 := Lib.hid ((HRD.out.alloc (.cells #[.int .i64 ax.id, .string ax.client, .int .i64 ax.sent, .slice Ax ax.items.length cx, .slice Dx ax.kept.length dx, .int .i64 ax.back] 34)).below b)
                          have hlt : w36.heap.size < we.heap.size := by have := b.size; simp at this; omega
                          have e0 := (b.cell (p := ⟨w36.heap.size, 0, none⟩) (by simp)).trans (World.cell?_alloc_at _ _ _ _ rfl)
                          have e1 := (b.cell (p := ⟨w36.heap.size, 1, none⟩) (by simp)).trans (World.cell?_alloc_at _ _ _ _ rfl)
                          have e2 := (b.cell (p := ⟨w36.heap.size, 2, none⟩) (by simp)).trans (World.cell?_alloc_at _ _ _ _ rfl)
                          have e3 := (b.cell (p := ⟨w36.heap.size, 3, none⟩) (by simp)).trans (World.cell?_alloc_at _ _ _ _ rfl)
                          have e4 := (b.cell (p := ⟨w36.heap.size, 4, none⟩) (by simp)).trans (World.cell?_alloc_at _ _ _ _ rfl)
                          have e5 := (b.cell (p := ⟨w36.heap.size, 5, none⟩) (by simp)).trans (World.cell?_alloc_at _ _ _ _ rfl)
                          have HBE := Lib.hid ((HBA.out (.cells #[.int .i64 ax.id, .string ax.client, .int .i64 ax.sent, .slice Ax ax.items.length cx, .slice Dx ax.kept.length dx, .int .i64 ax.back] 34)).trans (b.mono (by simp; omega)))
                          clear b HRA HRD
                          go_wp2_with fail
                          refine (specApprovalText_any ax Ax cx Dx dx _ HRA2.out HRD2.out HSM.out).mono ?_
                          rintro e wf ⟨rfl, b⟩
                          rw [← HTX.out, ← HTB.out]
                          have HBF := Lib.hid (HBE.out.trans (b.mono HBE.out.size))
                          clear b e0 e1 e2 e3 e4 e5
                          have hs1 : (ss.toList == ss.toList) = true := by simp
                          have hs2 : (tx.toList == tx.toList) = true := by simp
                          have hs3 : (sn == sn) = true := by simp
                          have hs4 : (sb == sb) = true := by simp
                          have hs5 : (tb == tb) = true := by simp
                          go_wp2
                          go_ret
                          exact ⟨by first | rfl | simp, HBF.out⟩
                  | true =>
                    have F4 : Hid (∀ (i : Nat) (x : AR), us[i]? = some x → hasB OD x.id = true → one = true ∧ ∃ z, x.items[0]? = some z ∧ hasB IO z = true) := Lib.hid (fun i x h h2 => by rw [HON.out, HIO.out]; rw [HOD.out] at h2; exact od_fact HKW.out.symm h h2)
                    go_wp2_with fail
                    go_loopw [34] (fun i wr => ∃ t : Nat, i = .int .i64 t ∧ t ≤ us.length ∧ w30 = wr) (fun i _ => us.length - (intOf i).toNat)
                    case atStart => exact ⟨0, rfl, by omega, rfl⟩
                    case round =>
                      obtain ⟨t, rfl, ht, rfl⟩ := hrel
                      by_cases htl : t < us.length
                      · have htl' : (t : Int) < (us.length : Int) := by omega
                        obtain ⟨y, ey⟩ : ∃ y, us[t]? = some y := ⟨_, List.getElem?_eq_getElem htl⟩
                        have ht0 : (0 : Int) ≤ (t : Int) := by omega
                        obtain ⟨gy, oy, By, cy, Dy, dy, eA, hrow⟩ := HR6.out.at ey
                        subst eA
                        have HROW := Lib.hid hrow
                        have y0 := hrow.c0
                        have hgy := hrow.lt
                        have F5 := Lib.hid (F4.out t y ey)
                        clear hrow ey
                        go_wp2_with fail
                        refine (rHas_any A7 OD.length c7 OD y.id _ rfl HI7.out hODn).mono ?_
                        rintro e wb ⟨rfl, rfl⟩
                        cases hh : hasB OD y.id with
                        | false =>
                          clear hh
                          go_wp2
                          go_roundw
                          case rel => exact ⟨t + 1, by go_num, by omega, by first | rfl | trivial⟩
                          case measure => simp [intOf]; omega
                        | true =>
                          obtain ⟨h1, z, ez, hz⟩ := F5.out hh
                          have HZ := Lib.hid hz
                          have hil := (List.getElem?_eq_some_iff.1 ez).1
                          have hil' : (0 : Int) < (y.items.length : Int) := by omega
                          have hie : ((y.items.length : Int) == 0) = false := by rw [beq_eq_false_iff_ne]; omega
                          obtain ⟨gz, oz, eB, hgz, cz⟩ := HROW.out.rB.at1 ez
                          rw [Nat.add_zero] at cz
                          subst eB
                          have y3 := HROW.out.c3
                          clear hh ez hz F5 F4 HON HROW
                          subst h1
                          go_wp2_with fail
                          refine (rHas_any A9 IO.length c9 IO z _ rfl HI9.out hIOn).mono ?_
                          rintro e wc ⟨rfl, rfl⟩
                          rw [HZ.out]
                          go_wp2
                          go_roundw
                          case rel => exact ⟨t + 1, by go_num, by omega, by first | rfl | trivial⟩
                          case measure => simp [intOf]; omega
                      · obtain rfl : t = us.length := by omega
                        clear F4 ht htl
                        as_aux_lemma =>
                          obtain ⟨ss, h_ss⟩ : ∃ ss, ss = slS xs := ⟨_, rfl⟩
                          have HSS := Lib.hid h_ss
                          clear h_ss
                          obtain ⟨sn, h_sn⟩ : ∃ sn, sn = slN xs := ⟨_, rfl⟩
                          have HSN := Lib.hid h_sn
                          clear h_sn
                          obtain ⟨sb, h_sb⟩ : ∃ sb, sb = slB xs := ⟨_, rfl⟩
                          have HSB := Lib.hid h_sb
                          clear h_sb
                          go_wp2_with fail
                          refine (implSlowestClient_any A1 xs.length c1 xs _ rfl HR1.out (by omega) hW1.out hC1.out).mono ?_
                          rintro e w37 ⟨rfl, b⟩
                          rw [← HSS.out, ← HSN.out, ← HSB.out]
                          have Bw37 := Lib.hid (Bw30.out.trans (b.mono Bw30.out.size))
                          have HR1' := Lib.hid (HR1.out.below b)
                          clear HR1
                          have HR1 := HR1'
                          clear HR1'
                          clear b
                          go_wp2_with fail
                          refine (specSlowestClient_any A1 xs.length c1 xs _ rfl HR1.out (by omega) hW1.out hC1.out).mono ?_
                          rintro e w38 ⟨rfl, b⟩
                          rw [← HSS.out, ← HSN.out, ← HSB.out]
                          have Bw38 := Lib.hid (Bw37.out.trans (b.mono Bw37.out.size))
                          clear b
                          go_wp2_with fail
                          refine (D3.out _ (HY.out.below Bw38.out)).mono ?_
                          rintro e w39 ⟨ax, Ax, cx, Dx, dx, rfl, hds, hc1, hc2, r1, r2, b⟩
                          have Bw39 := Lib.hid (Bw38.out.trans (b.mono Bw38.out.size))
                          have HRA := Lib.hid r1
                          have HRD := Lib.hid r2
                          have HSM := Lib.hid hds.sm
                          have HCA : Hid (ax.client.size ≤ maxLen ∧ (ax.items.length ≤ cx ∧ cx ≤ maxLen) ∧ (ax.kept.length ≤ dx ∧ dx ≤ maxLen)) := Lib.hid ⟨by have := hds.1; unfold maxLen; omega, hc1, hc2⟩
                          clear r1 r2 hds hc1 hc2 b
                          obtain ⟨tx, h_tx⟩ : ∃ tx, tx = atV ax := ⟨_, rfl⟩
                          have HTX := Lib.hid h_tx
                          clear h_tx
                          obtain ⟨tb, h_tb⟩ : ∃ tb, tb = oneA ax := ⟨_, rfl⟩
                          have HTB := Lib.hid h_tb
                          clear h_tb
                          have HBA := Lib.hid (fun o => Bw39.out.alloc Bw39.out.size o)
                          have hsz := Bw39.out.size
                          go_wp2_with fail
                          refine (implApprovalText_any ax Ax cx Dx dx _ (HRA.out.alloc _) (HRD.out.alloc _) HSM.out HCA.out (fun w' h => HT.out w' ((HBA.out _).trans (h.mono (by simp; omega))))).mono ?_
                          rintro e we ⟨rfl, b⟩
                          rw [← HTX.out, ← HTB.out]
                          have HRA2 := Lib.hid ((HRA.out.alloc (.cells #[.int .i64 ax.id, .string ax.client, .int .i64 ax.sent, .slice Ax ax.items.length cx, .slice Dx ax.kept.length dx, .int .i64 ax.back] 34)).below b)
                          have HRD2 := Lib.hid ((HRD.out.alloc (.cells #[.int .i64 ax.id, .string ax.client, .int .i64 ax.sent, .slice Ax ax.items.length cx, .slice Dx ax.kept.length dx, .int .i64 ax.back] 34)).below b)
                          have hlt : w39.heap.size < we.heap.size := by have := b.size; simp at this; omega
                          have e0 := (b.cell (p := ⟨w39.heap.size, 0, none⟩) (by simp)).trans (World.cell?_alloc_at _ _ _ _ rfl)
                          have e1 := (b.cell (p := ⟨w39.heap.size, 1, none⟩) (by simp)).trans (World.cell?_alloc_at _ _ _ _ rfl)
                          have e2 := (b.cell (p := ⟨w39.heap.size, 2, none⟩) (by simp)).trans (World.cell?_alloc_at _ _ _ _ rfl)
                          have e3 := (b.cell (p := ⟨w39.heap.size, 3, none⟩) (by simp)).trans (World.cell?_alloc_at _ _ _ _ rfl)
                          have e4 := (b.cell (p := ⟨w39.heap.size, 4, none⟩) (by simp)).trans (World.cell?_alloc_at _ _ _ _ rfl)
                          have e5 := (b.cell (p := ⟨w39.heap.size, 5, none⟩) (by simp)).trans (World.cell?_alloc_at _ _ _ _ rfl)
                          have HBE := Lib.hid ((HBA.out (.cells #[.int .i64 ax.id, .string ax.client, .int .i64 ax.sent, .slice Ax ax.items.length cx, .slice Dx ax.kept.length dx, .int .i64 ax.back] 34)).trans (b.mono (by simp; omega)))
                          clear b HRA HRD
                          go_wp2_with fail
                          refine (specApprovalText_any ax Ax cx Dx dx _ HRA2.out HRD2.out HSM.out).mono ?_
                          rintro e wf ⟨rfl, b⟩
                          rw [← HTX.out, ← HTB.out]
                          have HBF := Lib.hid (HBE.out.trans (b.mono HBE.out.size))
                          clear b e0 e1 e2 e3 e4 e5
                          have hs1 : (ss.toList == ss.toList) = true := by simp
                          have hs2 : (tx.toList == tx.toList) = true := by simp
                          have hs3 : (sn == sn) = true := by simp
                          have hs4 : (sb == sb) = true := by simp
                          have hs5 : (tb == tb) = true := by simp
                          go_wp2
                          go_ret
                          exact ⟨by first | rfl | simp, HBF.out⟩
              | true =>
                have hkl : decide (kd < kn) = false := by have := ks_le HKB.out.symm; rw [← HKN.out, ← HKD.out] at this; simp; omega
                as_aux_lemma =>
                  go_wp2_with fail
                  refine (D2.out _ (HY.out.below Bw25.out)).mono ?_
                  rintro e w40 ⟨v6, us, day, most, rfl, hl, b⟩
                  have Bw40 := Lib.hid (Bw25.out.trans (b.mono Bw25.out.size))
                  have HR1' := Lib.hid (HR1.out.below b)
                  clear HR1
                  have HR1 := HR1'
                  clear HR1'
                  obtain ⟨A6, c6, rfl, r6, hp6, hq6⟩ := hl.form
                  have hl6 := hl.len
                  have hw6 := Lib.hid hl.ds
                  have HR6 := Lib.hid r6
                  clear r6 hl b
                  have hW6 : Hid (∀ x ∈ us, smA x) := Lib.hid (fun x hx => (hw6.out x hx).sm)
                  have HD6 := hw6
                  clear hw6
                  have hC6 := Lib.hid (And.intro hp6 hq6)
                  clear hp6 hq6
                  obtain ⟨known, h_known⟩ : ∃ known, known = odB us day most := ⟨_, rfl⟩
                  have HKW := Lib.hid h_known
                  clear h_known
                  obtain ⟨OD, h_OD⟩ : ∃ OD, OD = odV us day most := ⟨_, rfl⟩
                  have HOD := Lib.hid h_OD
                  clear h_OD
                  obtain ⟨one, h_one⟩ : ∃ one, one = ioB us day := ⟨_, rfl⟩
                  have HON := Lib.hid h_one
                  clear h_one
                  obtain ⟨IO, h_IO⟩ : ∃ IO, IO = ioV us day := ⟨_, rfl⟩
                  have HIO := Lib.hid h_IO
                  clear h_IO
                  have hODn : OD.length ≤ 1048576 := by rw [HOD.out]; exact odV_len us day most
                  have hIOn : IO.length ≤ 1048576 := by rw [HIO.out]; exact ioV_len us day
                  go_wp2_with fail
                  refine (implOverdueIds_any A6 us.length c6 us day most _ rfl HR6.out (by omega) hW6.out hC6.out).mono ?_
                  rintro e w41 ⟨v7, rfl, o, b⟩
                  rw [← HKW.out]
                  rw [← HOD.out] at o
                  obtain ⟨A7, c7, rfl⟩ := own_form o
                  have Bw41 := Lib.hid (Bw40.out.trans (b.mono Bw40.out.size))
                  have HR1' := Lib.hid (HR1.out.below b)
                  clear HR1
                  have HR1 := HR1'
                  clear HR1'
                  have HR6' := Lib.hid (HR6.out.below b)
                  clear HR6
                  have HR6 := HR6'
                  clear HR6'
                  have HI7 := Lib.hid (Rd.of_own o)
                  clear o b
                  go_wp2_with fail
                  refine (specOverdueIds_any A6 us.length c6 us day most _ rfl HR6.out (by omega) hW6.out hC6.out).mono ?_
                  rintro e w42 ⟨v8, rfl, o, b⟩
                  rw [← HKW.out]
                  rw [← HOD.out] at o
                  obtain ⟨A8, c8, rfl⟩ := own_form o
                  have Bw42 := Lib.hid (Bw41.out.trans (b.mono Bw41.out.size))
                  have HR1' := Lib.hid (HR1.out.below b)
                  clear HR1
                  have HR1 := HR1'
                  clear HR1'
                  have HR6' := Lib.hid (HR6.out.below b)
                  clear HR6
                  have HR6 := HR6'
                  clear HR6'
                  have HI7' := Lib.hid (HI7.out.below b)
                  clear HI7
                  have HI7 := HI7'
                  clear HI7'
                  have HI8 := Lib.hid (Rd.of_own o)
                  clear o b
                  go_wp2_with fail
                  refine (rInts_same _ _ _ _ _ OD _ rfl HI7.out HI8.out hODn).mono ?_
                  rintro e w43 ⟨rfl, b⟩
                  have Bw43 := Lib.hid (Bw42.out.trans (b.mono Bw42.out.size))
                  have HR1' := Lib.hid (HR1.out.below b)
                  clear HR1
                  have HR1 := HR1'
                  clear HR1'
                  have HR6' := Lib.hid (HR6.out.below b)
                  clear HR6
                  have HR6 := HR6'
                  clear HR6'
                  have HI7' := Lib.hid (HI7.out.below b)
                  clear HI7
                  have HI7 := HI7'
                  clear HI7'
                  clear b
                  go_wp2_with fail
                  refine (implItemsOut_any A6 us.length c6 us day _ rfl HR6.out (by omega) hW6.out hC6.out).mono ?_
                  rintro e w44 ⟨v9, rfl, o, b⟩
                  rw [← HON.out]
                  rw [← HIO.out] at o
                  obtain ⟨A9, c9, rfl⟩ := own_form o
                  have Bw44 := Lib.hid (Bw43.out.trans (b.mono Bw43.out.size))
                  have HR1' := Lib.hid (HR1.out.below b)
                  clear HR1
                  have HR1 := HR1'
                  clear HR1'
                  have HR6' := Lib.hid (HR6.out.below b)
                  clear HR6
                  have HR6 := HR6'
                  clear HR6'
                  have HI7' := Lib.hid (HI7.out.below b)
                  clear HI7
                  have HI7 := HI7'
                  clear HI7'
                  have HI9 := Lib.hid (Rd.of_own o)
                  clear o b
                  cases known with
                  | false =>
                    go_wp2_with fail
                    go_loopw [34] (fun i wr => i = .int .i64 0 ∧ w44 = wr) (fun i _ => us.length - (intOf i).toNat)
                    case atStart => exact ⟨rfl, rfl⟩
                    case round =>
                      obtain ⟨rfl, rfl⟩ := hrel
                      by_cases htl : 0 < us.length
                      · have htl' : (0 : Int) < (us.length : Int) := by omega
                        as_aux_lemma =>
                          obtain ⟨ss, h_ss⟩ : ∃ ss, ss = slS xs := ⟨_, rfl⟩
                          have HSS := Lib.hid h_ss
                          clear h_ss
                          obtain ⟨sn, h_sn⟩ : ∃ sn, sn = slN xs := ⟨_, rfl⟩
                          have HSN := Lib.hid h_sn
                          clear h_sn
                          obtain ⟨sb, h_sb⟩ : ∃ sb, sb = slB xs := ⟨_, rfl⟩
                          have HSB := Lib.hid h_sb
                          clear h_sb
                          go_wp2_with fail
                          refine (implSlowestClient_any A1 xs.length c1 xs _ rfl HR1.out (by omega) hW1.out hC1.out).mono ?_
                          rintro e w45 ⟨rfl, b⟩
                          rw [← HSS.out, ← HSN.out, ← HSB.out]
                          have Bw45 := Lib.hid (Bw44.out.trans (b.mono Bw44.out.size))
                          have HR1' := Lib.hid (HR1.out.below b)
                          clear HR1
                          have HR1 := HR1'
                          clear HR1'
                          clear b
                          go_wp2_with fail
                          refine (specSlowestClient_any A1 xs.length c1 xs _ rfl HR1.out (by omega) hW1.out hC1.out).mono ?_
                          rintro e w46 ⟨rfl, b⟩
                          rw [← HSS.out, ← HSN.out, ← HSB.out]
                          have Bw46 := Lib.hid (Bw45.out.trans (b.mono Bw45.out.size))
                          clear b
                          go_wp2_with fail
                          refine (D3.out _ (HY.out.below Bw46.out)).mono ?_
                          rintro e w47 ⟨ax, Ax, cx, Dx, dx, rfl, hds, hc1, hc2, r1, r2, b⟩
                          have Bw47 := Lib.hid (Bw46.out.trans (b.mono Bw46.out.size))
                          have HRA := Lib.hid r1
                          have HRD := Lib.hid r2
                          have HSM := Lib.hid hds.sm
                          have HCA : Hid (ax.client.size ≤ maxLen ∧ (ax.items.length ≤ cx ∧ cx ≤ maxLen) ∧ (ax.kept.length ≤ dx ∧ dx ≤ maxLen)) := Lib.hid ⟨by have := hds.1; unfold maxLen; omega, hc1, hc2⟩
                          clear r1 r2 hds hc1 hc2 b
                          obtain ⟨tx, h_tx⟩ : ∃ tx, tx = atV ax := ⟨_, rfl⟩
                          have HTX := Lib.hid h_tx
                          clear h_tx
                          obtain ⟨tb, h_tb⟩ : ∃ tb, tb = oneA ax := ⟨_, rfl⟩
                          have HTB := Lib.hid h_tb
                          clear h_tb
                          have HBA := Lib.hid (fun o => Bw47.out.alloc Bw47.out.size o)
                          have hsz := Bw47.out.size
                          go_wp2_with fail
                          refine (implApprovalText_any ax Ax cx Dx dx _ (HRA.out.alloc _) (HRD.out.alloc _) HSM.out HCA.out (fun w' h => HT.out w' ((HBA.out _).trans (h.mono (by simp; omega))))).mono ?_
                          rintro e we ⟨rfl, b⟩
                          rw [← HTX.out, ← HTB.out]
                          have HRA2 := Lib.hid ((HRA.out.alloc (.cells #[.int .i64 ax.id, .string ax.client, .int .i64 ax.sent, .slice Ax ax.items.length cx, .slice Dx ax.kept.length dx, .int .i64 ax.back] 34)).below b)
                          have HRD2 := Lib.hid ((HRD.out.alloc (.cells #[.int .i64 ax.id, .string ax.client, .int .i64 ax.sent, .slice Ax ax.items.length cx, .slice Dx ax.kept.length dx, .int .i64 ax.back] 34)).below b)
                          have hlt : w47.heap.size < we.heap.size := by have := b.size; simp at this; omega
                          have e0 := (b.cell (p := ⟨w47.heap.size, 0, none⟩) (by simp)).trans (World.cell?_alloc_at _ _ _ _ rfl)
                          have e1 := (b.cell (p := ⟨w47.heap.size, 1, none⟩) (by simp)).trans (World.cell?_alloc_at _ _ _ _ rfl)
                          have e2 := (b.cell (p := ⟨w47.heap.size, 2, none⟩) (by simp)).trans (World.cell?_alloc_at _ _ _ _ rfl)
                          have e3 := (b.cell (p := ⟨w47.heap.size, 3, none⟩) (by simp)).trans (World.cell?_alloc_at _ _ _ _ rfl)
                          have e4 := (b.cell (p := ⟨w47.heap.size, 4, none⟩) (by simp)).trans (World.cell?_alloc_at _ _ _ _ rfl)
                          have e5 := (b.cell (p := ⟨w47.heap.size, 5, none⟩) (by simp)).trans (World.cell?_alloc_at _ _ _ _ rfl)
                          have HBE := Lib.hid ((HBA.out (.cells #[.int .i64 ax.id, .string ax.client, .int .i64 ax.sent, .slice Ax ax.items.length cx, .slice Dx ax.kept.length dx, .int .i64 ax.back] 34)).trans (b.mono (by simp; omega)))
                          clear b HRA HRD
                          go_wp2_with fail
                          refine (specApprovalText_any ax Ax cx Dx dx _ HRA2.out HRD2.out HSM.out).mono ?_
                          rintro e wf ⟨rfl, b⟩
                          rw [← HTX.out, ← HTB.out]
                          have HBF := Lib.hid (HBE.out.trans (b.mono HBE.out.size))
                          clear b e0 e1 e2 e3 e4 e5
                          have hs1 : (ss.toList == ss.toList) = true := by simp
                          have hs2 : (tx.toList == tx.toList) = true := by simp
                          have hs3 : (sn == sn) = true := by simp
                          have hs4 : (sb == sb) = true := by simp
                          have hs5 : (tb == tb) = true := by simp
                          go_wp2
                          go_ret
                          exact ⟨by first | rfl | simp, HBF.out⟩
                      · have htl' : ¬ (0 : Int) < (us.length : Int) := by omega
                        have htl2 : (us.length : Int) ≤ 0 := by omega
                        as_aux_lemma =>
                          obtain ⟨ss, h_ss⟩ : ∃ ss, ss = slS xs := ⟨_, rfl⟩
                          have HSS := Lib.hid h_ss
                          clear h_ss
                          obtain ⟨sn, h_sn⟩ : ∃ sn, sn = slN xs := ⟨_, rfl⟩
                          have HSN := Lib.hid h_sn
                          clear h_sn
                          obtain ⟨sb, h_sb⟩ : ∃ sb, sb = slB xs := ⟨_, rfl⟩
                          have HSB := Lib.hid h_sb
                          clear h_sb
                          go_wp2_with fail
                          refine (implSlowestClient_any A1 xs.length c1 xs _ rfl HR1.out (by omega) hW1.out hC1.out).mono ?_
                          rintro e w48 ⟨rfl, b⟩
                          rw [← HSS.out, ← HSN.out, ← HSB.out]
                          have Bw48 := Lib.hid (Bw44.out.trans (b.mono Bw44.out.size))
                          have HR1' := Lib.hid (HR1.out.below b)
                          clear HR1
                          have HR1 := HR1'
                          clear HR1'
                          clear b
                          go_wp2_with fail
                          refine (specSlowestClient_any A1 xs.length c1 xs _ rfl HR1.out (by omega) hW1.out hC1.out).mono ?_
                          rintro e w49 ⟨rfl, b⟩
                          rw [← HSS.out, ← HSN.out, ← HSB.out]
                          have Bw49 := Lib.hid (Bw48.out.trans (b.mono Bw48.out.size))
                          clear b
                          go_wp2_with fail
                          refine (D3.out _ (HY.out.below Bw49.out)).mono ?_
                          rintro e w50 ⟨ax, Ax, cx, Dx, dx, rfl, hds, hc1, hc2, r1, r2, b⟩
                          have Bw50 := Lib.hid (Bw49.out.trans (b.mono Bw49.out.size))
                          have HRA := Lib.hid r1
                          have HRD := Lib.hid r2
                          have HSM := Lib.hid hds.sm
                          have HCA : Hid (ax.client.size ≤ maxLen ∧ (ax.items.length ≤ cx ∧ cx ≤ maxLen) ∧ (ax.kept.length ≤ dx ∧ dx ≤ maxLen)) := Lib.hid ⟨by have := hds.1; unfold maxLen; omega, hc1, hc2⟩
                          clear r1 r2 hds hc1 hc2 b
                          obtain ⟨tx, h_tx⟩ : ∃ tx, tx = atV ax := ⟨_, rfl⟩
                          have HTX := Lib.hid h_tx
                          clear h_tx
                          obtain ⟨tb, h_tb⟩ : ∃ tb, tb = oneA ax := ⟨_, rfl⟩
                          have HTB := Lib.hid h_tb
                          clear h_tb
                          have HBA := Lib.hid (fun o => Bw50.out.alloc Bw50.out.size o)
                          have hsz := Bw50.out.size
                          go_wp2_with fail
                          refine (implApprovalText_any ax Ax cx Dx dx _ (HRA.out.alloc _) (HRD.out.alloc _) HSM.out HCA.out (fun w' h => HT.out w' ((HBA.out _).trans (h.mono (by simp; omega))))).mono ?_
                          rintro e we ⟨rfl, b⟩
                          rw [← HTX.out, ← HTB.out]
                          have HRA2 := Lib.hid ((HRA.out.alloc (.cells #[.int .i64 ax.id, .string ax.client, .int .i64 ax.sent, .slice Ax ax.items.length cx, .slice Dx ax.kept.length dx, .int .i64 ax.back] 34)).below b)
                          have HRD2 := Lib.hid ((HRD.out.alloc (.cells #[.int .i64 ax.id, .string ax.client, .int .i64 ax.sent, .slice Ax ax.items.length cx, .slice Dx ax.kept.length dx, .int .i64 ax.back] 34)).below b)
                          have hlt : w50.heap.size < we.heap.size := by have := b.size; simp at this; omega
                          have e0 := (b.cell (p := ⟨w50.heap.size, 0, none⟩) (by simp)).trans (World.cell?_alloc_at _ _ _ _ rfl)
                          have e1 := (b.cell (p := ⟨w50.heap.size, 1, none⟩) (by simp)).trans (World.cell?_alloc_at _ _ _ _ rfl)
                          have e2 := (b.cell (p := ⟨w50.heap.size, 2, none⟩) (by simp)).trans (World.cell?_alloc_at _ _ _ _ rfl)
                          have e3 := (b.cell (p := ⟨w50.heap.size, 3, none⟩) (by simp)).trans (World.cell?_alloc_at _ _ _ _ rfl)
                          have e4 := (b.cell (p := ⟨w50.heap.size, 4, none⟩) (by simp)).trans (World.cell?_alloc_at _ _ _ _ rfl)
                          have e5 := (b.cell (p := ⟨w50.heap.size, 5, none⟩) (by simp)).trans (World.cell?_alloc_at _ _ _ _ rfl)
                          have HBE := Lib.hid ((HBA.out (.cells #[.int .i64 ax.id, .string ax.client, .int .i64 ax.sent, .slice Ax ax.items.length cx, .slice Dx ax.kept.length dx, .int .i64 ax.back] 34)).trans (b.mono (by simp; omega)))
                          clear b HRA HRD
                          go_wp2_with fail
                          refine (specApprovalText_any ax Ax cx Dx dx _ HRA2.out HRD2.out HSM.out).mono ?_
                          rintro e wf ⟨rfl, b⟩
                          rw [← HTX.out, ← HTB.out]
                          have HBF := Lib.hid (HBE.out.trans (b.mono HBE.out.size))
                          clear b e0 e1 e2 e3 e4 e5
                          have hs1 : (ss.toList == ss.toList) = true := by simp
                          have hs2 : (tx.toList == tx.toList) = true := by simp
                          have hs3 : (sn == sn) = true := by simp
                          have hs4 : (sb == sb) = true := by simp
                          have hs5 : (tb == tb) = true := by simp
                          go_wp2
                          go_ret
                          exact ⟨by first | rfl | simp, HBF.out⟩
                  | true =>
                    have F4 : Hid (∀ (i : Nat) (x : AR), us[i]? = some x → hasB OD x.id = true → one = true ∧ ∃ z, x.items[0]? = some z ∧ hasB IO z = true) := Lib.hid (fun i x h h2 => by rw [HON.out, HIO.out]; rw [HOD.out] at h2; exact od_fact HKW.out.symm h h2)
                    go_wp2_with fail
                    go_loopw [34] (fun i wr => ∃ t : Nat, i = .int .i64 t ∧ t ≤ us.length ∧ w44 = wr) (fun i _ => us.length - (intOf i).toNat)
                    case atStart => exact ⟨0, rfl, by omega, rfl⟩
                    case round =>
                      obtain ⟨t, rfl, ht, rfl⟩ := hrel
                      by_cases htl : t < us.length
                      · have htl' : (t : Int) < (us.length : Int) := by omega
                        obtain ⟨y, ey⟩ : ∃ y, us[t]? = some y := ⟨_, List.getElem?_eq_getElem htl⟩
                        have ht0 : (0 : Int) ≤ (t : Int) := by omega
                        obtain ⟨gy, oy, By, cy, Dy, dy, eA, hrow⟩ := HR6.out.at ey
                        subst eA
                        have HROW := Lib.hid hrow
                        have y0 := hrow.c0
                        have hgy := hrow.lt
                        have F5 := Lib.hid (F4.out t y ey)
                        clear hrow ey
                        go_wp2_with fail
                        refine (rHas_any A7 OD.length c7 OD y.id _ rfl HI7.out hODn).mono ?_
                        rintro e wb ⟨rfl, rfl⟩
                        cases hh : hasB OD y.id with
                        | false =>
                          clear hh
                          go_wp2
                          go_roundw
                          case rel => exact ⟨t + 1, by go_num, by omega, by first | rfl | trivial⟩
                          case measure => simp [intOf]; omega
                        | true =>
                          obtain ⟨h1, z, ez, hz⟩ := F5.out hh
                          have HZ := Lib.hid hz
                          have hil := (List.getElem?_eq_some_iff.1 ez).1
                          have hil' : (0 : Int) < (y.items.length : Int) := by omega
                          have hie : ((y.items.length : Int) == 0) = false := by rw [beq_eq_false_iff_ne]; omega
                          obtain ⟨gz, oz, eB, hgz, cz⟩ := HROW.out.rB.at1 ez
                          rw [Nat.add_zero] at cz
                          subst eB
                          have y3 := HROW.out.c3
                          clear hh ez hz F5 F4 HON HROW
                          subst h1
                          go_wp2_with fail
                          refine (rHas_any A9 IO.length c9 IO z _ rfl HI9.out hIOn).mono ?_
                          rintro e wc ⟨rfl, rfl⟩
                          rw [HZ.out]
                          go_wp2
                          go_roundw
                          case rel => exact ⟨t + 1, by go_num, by omega, by first | rfl | trivial⟩
                          case measure => simp [intOf]; omega
                      · obtain rfl : t = us.length := by omega
                        clear F4 ht htl
                        as_aux_lemma =>
                          obtain ⟨ss, h_ss⟩ : ∃ ss, ss = slS xs := ⟨_, rfl⟩
                          have HSS := Lib.hid h_ss
                          clear h_ss
                          obtain ⟨sn, h_sn⟩ : ∃ sn, sn = slN xs := ⟨_, rfl⟩
                          have HSN := Lib.hid h_sn
                          clear h_sn
                          obtain ⟨sb, h_sb⟩ : ∃ sb, sb = slB xs := ⟨_, rfl⟩
                          have HSB := Lib.hid h_sb
                          clear h_sb
                          go_wp2_with fail
                          refine (implSlowestClient_any A1 xs.length c1 xs _ rfl HR1.out (by omega) hW1.out hC1.out).mono ?_
                          rintro e w51 ⟨rfl, b⟩
                          rw [← HSS.out, ← HSN.out, ← HSB.out]
                          have Bw51 := Lib.hid (Bw44.out.trans (b.mono Bw44.out.size))
                          have HR1' := Lib.hid (HR1.out.below b)
                          clear HR1
                          have HR1 := HR1'
                          clear HR1'
                          clear b
                          go_wp2_with fail
                          refine (specSlowestClient_any A1 xs.length c1 xs _ rfl HR1.out (by omega) hW1.out hC1.out).mono ?_
                          rintro e w52 ⟨rfl, b⟩
                          rw [← HSS.out, ← HSN.out, ← HSB.out]
                          have Bw52 := Lib.hid (Bw51.out.trans (b.mono Bw51.out.size))
                          clear b
                          go_wp2_with fail
                          refine (D3.out _ (HY.out.below Bw52.out)).mono ?_
                          rintro e w53 ⟨ax, Ax, cx, Dx, dx, rfl, hds, hc1, hc2, r1, r2, b⟩
                          have Bw53 := Lib.hid (Bw52.out.trans (b.mono Bw52.out.size))
                          have HRA := Lib.hid r1
                          have HRD := Lib.hid r2
                          have HSM := Lib.hid hds.sm
                          have HCA : Hid (ax.client.size ≤ maxLen ∧ (ax.items.length ≤ cx ∧ cx ≤ maxLen) ∧ (ax.kept.length ≤ dx ∧ dx ≤ maxLen)) := Lib.hid ⟨by have := hds.1; unfold maxLen; omega, hc1, hc2⟩
                          clear r1 r2 hds hc1 hc2 b
                          obtain ⟨tx, h_tx⟩ : ∃ tx, tx = atV ax := ⟨_, rfl⟩
                          have HTX := Lib.hid h_tx
                          clear h_tx
                          obtain ⟨tb, h_tb⟩ : ∃ tb, tb = oneA ax := ⟨_, rfl⟩
                          have HTB := Lib.hid h_tb
                          clear h_tb
                          have HBA := Lib.hid (fun o => Bw53.out.alloc Bw53.out.size o)
                          have hsz := Bw53.out.size
                          go_wp2_with fail
                          refine (implApprovalText_any ax Ax cx Dx dx _ (HRA.out.alloc _) (HRD.out.alloc _) HSM.out HCA.out (fun w' h => HT.out w' ((HBA.out _).trans (h.mono (by simp; omega))))).mono ?_
                          rintro e we ⟨rfl, b⟩
                          rw [← HTX.out, ← HTB.out]
                          have HRA2 := Lib.hid ((HRA.out.alloc (.cells #[.int .i64 ax.id, .string ax.client, .int .i64 ax.sent, .slice Ax ax.items.length cx, .slice Dx ax.kept.length dx, .int .i64 ax.back] 34)).below b)
                          have HRD2 := Lib.hid ((HRD.out.alloc (.cells #[.int .i64 ax.id, .string ax.client, .int .i64 ax.sent, .slice Ax ax.items.length cx, .slice Dx ax.kept.length dx, .int .i64 ax.back] 34)).below b)
                          have hlt : w53.heap.size < we.heap.size := by have := b.size; simp at this; omega
                          have e0 := (b.cell (p := ⟨w53.heap.size, 0, none⟩) (by simp)).trans (World.cell?_alloc_at _ _ _ _ rfl)
                          have e1 := (b.cell (p := ⟨w53.heap.size, 1, none⟩) (by simp)).trans (World.cell?_alloc_at _ _ _ _ rfl)
                          have e2 := (b.cell (p := ⟨w53.heap.size, 2, none⟩) (by simp)).trans (World.cell?_alloc_at _ _ _ _ rfl)
                          have e3 := (b.cell (p := ⟨w53.heap.size, 3, none⟩) (by simp)).trans (World.cell?_alloc_at _ _ _ _ rfl)
                          have e4 := (b.cell (p := ⟨w53.heap.size, 4, none⟩) (by simp)).trans (World.cell?_alloc_at _ _ _ _ rfl)
                          have e5 := (b.cell (p := ⟨w53.heap.size, 5, none⟩) (by simp)).trans (World.cell?_alloc_at _ _ _ _ rfl)
                          have HBE := Lib.hid ((HBA.out (.cells #[.int .i64 ax.id, .string ax.client, .int .i64 ax.sent, .slice Ax ax.items.length cx, .slice Dx ax.kept.length dx, .int .i64 ax.back] 34)).trans (b.mono (by simp; omega)))
                          clear b HRA HRD
                          go_wp2_with fail
                          refine (specApprovalText_any ax Ax cx Dx dx _ HRA2.out HRD2.out HSM.out).mono ?_
                          rintro e wf ⟨rfl, b⟩
                          rw [← HTX.out, ← HTB.out]
                          have HBF := Lib.hid (HBE.out.trans (b.mono HBE.out.size))
                          clear b e0 e1 e2 e3 e4 e5
                          have hs1 : (ss.toList == ss.toList) = true := by simp
                          have hs2 : (tx.toList == tx.toList) = true := by simp
                          have hs3 : (sn == sn) = true := by simp
                          have hs4 : (sb == sb) = true := by simp
                          have hs5 : (tb == tb) = true := by simp
                          go_wp2
                          go_ret
                          exact ⟨by first | rfl | simp, HBF.out⟩

theorem own : ownKnob Tryd.prog.godebug = none := by kernel_rfl
theorem laidOut : laidOutB Tryd.prog = true := by kernel_rfl
set_option maxRecDepth 100000 in
theorem lifted (os : Os) (started : os.Started) (H : Type) (enc : TypeId × Value → H) :
    ReturnsInHanded {} Tryd.checked os 3 .any (fun w args => (Rows.fnClientsSpec.pre enc Tryd.prog Tryd.f3 [] false w args ∧ laidMetH Tryd.prog Rows.fnClientsRow.laid w) ∧ sizedMet enc Tryd.prog Tryd.f3 (OpenSpec.ofChange Rows.fnClientsSpec) false w args)
      (Rows.fnClientsSpec.post enc Tryd.prog Tryd.f3 false true false false) := by
  refine returnsInHanded_of_change_and (C := Tryd.checked) (X := fun w _ => laidMetH Tryd.prog Rows.fnClientsRow.laid w) (fun _ _ _ hh h => h.of_heap hh) own started (by kernel_rfl) Tryd.func3
    (ChangeSpec.witness_shaped (enc := enc) (C := Tryd.checked) (os := os) (X := fun w _ => laidMetH Tryd.prog Rows.fnClientsRow.laid w) false (World.doorLaid Tryd.prog 24 os) #[.slice none 0 0] 8 rfl (World.shaped_of_RefB (by kernel_rfl) (by kernel_rfl)) (by kernel_rfl) (by kernel_rfl) (by kernel_rfl) (door_met os _)) ?_
  intro W base args ds gs before hval0 hW _ _ hL _
  have hval : ∀ (j : Nat) t v, Tryd.f3.params[j]? = some t → args[j]? = some v → Value.okWide Tryd.prog W .any base t v := hval0
  have hW' := hW
  obtain ⟨p, q, hA0, hV, rfl, hfz, hnd⟩ := hW
  have hA : DataW.TrodAll enc Tryd.prog W 0 (fun _ => true) true Tryd.f3.params.toList args.toList ds p := hA0
  rw [Tryd.params3] at hA hval
  obtain ⟨v0, vs0, d0, ds0, p0, q0, hargs, rfl, rfl, h0, r0⟩ := trodAll_cons hA
  obtain ⟨rfl, rfl, rfl⟩ := trodAll_nil r0
  obtain rfl : args = #[v0] := by cases args; simp_all
  obtain ⟨rfl, rfl⟩ := trodVars_none hV
  obtain ⟨a0, len0, cap0, rfl⟩ := okWide_slice Tryd.underlying22 (hval 0 22 v0 rfl rfl)
  have k0 := h0
  have lt0 : ∀ x ∈ p0, x.block < W.heap.size := by obtain ⟨m, hm⟩ := k0; exact DataW.trod_lt m _ _ _ hm
  obtain ⟨zs, hl0, hr0, hm0, hb0⟩ := openU Tryd.underlying22 Tryd.underlying5 (by kernel_rfl) h0
  clear hA0 hval0
  refine (walk a0 len0 cap0 zs W hl0 hr0 hm0 hb0 (tab_below hL)).mono fun e W' ⟨he, bel⟩ => ?_
  subst he
  exact ⟨_, rfl, _, _, _, [], _, [], hW', trodAll_mk1 (shut_bool Tryd.underlying4 _), (trodAll_cons_mk (Below.trod laidOut (by kernel_rfl) (of_decide_eq_true (by kernel_rfl)) k0 bel lt0) trodAll_mk0), rfl, bel.frame _, fun h => by cases h⟩

theorem over : Rows.fnClientsRow.holds Tryd.pinned (OpenSpec.ofChange Rows.fnClientsSpec) :=
  OpenClaim.holds_of_wide 3 Tryd.f3 rfl rfl rfl rfl rfl rfl rfl ⟨rfl, rfl, rfl, rfl, rfl⟩ rfl rfl rfl rfl rfl (by kernel_rfl) Tryd.func3 (by kernel_rfl)
    (of_decide_eq_true (by kernel_rfl)) (by unfold Func.isWrapper; first | (rw [if_pos (by decide +kernel)]; kernel_rfl) | (rw [if_neg (by decide +kernel)]; exact ⟨rfl, rfl⟩))
    (fun os started H enc _ => lifted os started H enc)

theorem proved : Rows.FnClientsCardSaid :=
  Claim7.holds_tied_plain_at .later [] [.data, .data, .data] true Rows.fnClientsCard.stood.harness false
    over (fun _ h => by cases h) (by kernel_rfl) (fun _ h => by cases h) fnClients_row_tie rfl ⟨rfl, rfl⟩ (by kernel_rfl) rfl
    (fun f fn hf hfn => by
      obtain rfl : f = 3 := Option.some.inj ((show Tryd.prog.funcNamed "loop.example/g01062/laws.FnClients" = some 3 by kernel_rfl).symm.trans hf) |>.symm
      obtain rfl : fn = Tryd.f3 := (Option.some.inj (Tryd.func3.symm.trans hfn)).symm
      exact ⟨by kernel_rfl, fun j t ht => by
        rw [Tryd.params3] at ht
        have hm : t ∈ [22] := by simpa using Array.mem_of_getElem? ht
        have hall : ([22].all fun u => !Tryd.prog.wantsStandIn u) = true := by kernel_rfl
        exact (show Tryd.prog.wantsStandIn t = false by simpa using List.all_eq_true.1 hall t hm)⟩)
    (by kernel_rfl)
#print axioms proved
end Go.Proofs.YtehohkdipfphmaaDoor.ltFnClients
