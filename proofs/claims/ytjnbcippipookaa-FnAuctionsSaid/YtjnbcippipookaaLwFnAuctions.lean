/- The law FnAuctions returns true for every input: what the program and the reference answer on auctions is the same and agrees with what the law asks. No conditions. -/
import Derived.Test.YtjnbcippipookaaAuV
namespace Go.Proofs.Ytjnbcippipookaa.lwFnAuctions
set_option linter.unusedSimpArgs false
open Go.ChangeShapes Go.WideShapes Go.ChangeAt Go.RowKit
set_option linter.unusedVariables false

set_option maxRecDepth 20000 in
set_option maxHeartbeats 16000000 in
theorem walk (B : Option Addr) (n c : Nat) (zs : List Int) (w : World) (hn : zs.length = n) (hB : Rd w B (cellsU zs)) (hm : n ≤ maxLen) (hb : ∀ z ∈ zs, 0 ≤ z ∧ z ≤ 255) :
    Calls Try.prog 3 #[.slice B n c] w (Ret (.bool true) w) := by
  have CB := Lib.hid (fun w => vBig_any B n c w hm)
  by_cases hbig : (65536 : Int) < n
  · rw [show decide ((65536 : Int) < n) = true by simp; omega] at CB
    clear hbig hn
    go_enter Try.func3, Try.ntmps3
    go_wp2_with fail
    refine (CB.out _).mono ?_
    rintro e w1 ⟨rfl, rfl⟩
    go_wp2
    go_ret
    exact ⟨rfl, Below.refl _ _⟩
  rw [show decide ((65536 : Int) < n) = false by simp; omega] at CB
  have HY : Hid (Bytes w B zs) := Lib.hid ⟨hB, hb, by omega⟩
  have HN := Lib.hid hn
  clear hbig hn hB hm hb
  have D1 := Lib.hid (fun w h => drawStepAuction_any B n c zs w HN.out h)
  have D2 := Lib.hid (fun w h => drawRunAuction_any B n c zs w HN.out h)
  go_enter Try.func3, Try.ntmps3
  go_wp2_with fail
  refine (CB.out _).mono ?_
  rintro e w0 ⟨rfl, rfl⟩
  have HB0 := Lib.hid (Below.refl w.heap.size w)
  go_wp2_with fail
  refine (D1.out _ (HY.out)).mono ?_
  rintro e w1 ⟨v1, xs, q1, q2, q3, q4, rfl, hl, hx9, b⟩
  have Bw1 := Lib.hid (HB0.out.trans (b.mono HB0.out.size))
  obtain ⟨A1, c1, rfl, r1, h1, h1m⟩ := hl.form
  have HR1 := Lib.hid r1
  clear r1 hl b
  go_wp2_with fail
  obtain ⟨wx, hwx⟩ : ∃ wx, wx = (w1.alloc (.cells #[.int .i64 q1, .int .i64 q2, .int .i64 q3, .int .i64 q4] 26)) := ⟨_, rfl⟩
  have KX : Hid (Blk wx w1.heap.size [.int .i64 q1, .int .i64 q2, .int .i64 q3, .int .i64 q4]) := Lib.hid (by rw [hwx]; exact Blk.new w1 _ _)
  have bx : Below w1.heap.size w1 wx := by rw [hwx]; exact (Below.refl _ _).alloc (Nat.le_refl _) _
  rw [← hwx]
  clear hwx
  have Bwx := Lib.hid (Bw1.out.trans (bx.mono Bw1.out.size))
  have HR1' := Lib.hid (HR1.out.below bx)
  clear HR1
  have HR1 := HR1'
  clear HR1'
  clear bx
  obtain ⟨ok, h_ok⟩ : ∃ ok, ok = stpB xs q1 q2 q3 q4 := ⟨_, rfl⟩
  have HOK := Lib.hid h_ok
  clear h_ok
  obtain ⟨S, h_S⟩ : ∃ S, S = stpV xs q1 q2 q3 q4 := ⟨_, rfl⟩
  have HS := Lib.hid h_S
  clear h_S
  have hS : S.length ≤ 9 := by rw [HS.out]; exact stpV_len xs q1 q2 q3 q4
  have hoo : (ok != ok) = false := by cases ok <;> rfl
  refine (implStepAuction_any A1 xs.length c1 xs q1 q2 q3 q4 _ rfl HR1.out (by omega)).mono ?_
  rintro e w2 ⟨v3, rfl, o, b⟩
  rw [← HOK.out]
  rw [← HS.out] at o
  obtain ⟨Av3, cv3, rfl⟩ := own_form o
  have Bw2 := Lib.hid (Bwx.out.trans (b.mono Bwx.out.size))
  have HR1' := Lib.hid (HR1.out.below b)
  clear HR1
  have HR1 := HR1'
  clear HR1'
  have KX' := Lib.hid (KX.out.below b KX.out.lt)
  clear KX
  have KX := KX'
  clear KX'
  have HRv3 := Lib.hid (Rd.of_own o)
  clear o b
  have y0 := KX.out.cell 0 _ rfl
  have y1 := KX.out.cell 1 _ rfl
  have y2 := KX.out.cell 2 _ rfl
  have y3 := KX.out.cell 3 _ rfl
  go_wp2_with fail
  clear y0 y1 y2 y3
  refine (specStepAuction_any A1 xs.length c1 xs q1 q2 q3 q4 _ rfl HR1.out (by omega) h1 h1m).mono ?_
  rintro e w3 ⟨v4, rfl, o, b⟩
  rw [← HOK.out]
  rw [← HS.out] at o
  obtain ⟨Av4, cv4, rfl⟩ := own_form o
  have Bw3 := Lib.hid (Bw2.out.trans (b.mono Bw2.out.size))
  have HR1' := Lib.hid (HR1.out.below b)
  clear HR1
  have HR1 := HR1'
  clear HR1'
  have HRv3' := Lib.hid (HRv3.out.below b)
  clear HRv3
  have HRv3 := HRv3'
  clear HRv3'
  have KX' := Lib.hid (KX.out.below b KX.out.lt)
  clear KX
  have KX := KX'
  clear KX'
  have HRv4 := Lib.hid (Rd.of_own o)
  clear o b
  have y0 := KX.out.cell 0 _ rfl
  have y1 := KX.out.cell 1 _ rfl
  have y2 := KX.out.cell 2 _ rfl
  have y3 := KX.out.cell 3 _ rfl
  go_wp2_with fail
  clear y0 y1 y2 y3
  refine (vSaleLots_same _ _ _ _ _ S _ rfl HRv3.out HRv4.out (by omega)).mono ?_
  rintro e w4 ⟨rfl, b⟩
  have Bw4 := Lib.hid (Bw3.out.trans (b.mono Bw3.out.size))
  have HR1' := Lib.hid (HR1.out.below b)
  clear HR1
  have HR1 := HR1'
  clear HR1'
  have HRv3' := Lib.hid (HRv3.out.below b)
  clear HRv3
  have HRv3 := HRv3'
  clear HRv3'
  have KX' := Lib.hid (KX.out.below b KX.out.lt)
  clear KX
  have KX := KX'
  clear KX'
  clear b
  obtain ⟨q, h_q⟩ : ∃ q, q = auc xs := ⟨_, rfl⟩
  have HQ := Lib.hid h_q
  clear h_q
  have hqq : (q != q) = false := by cases q <;> rfl
  have y0 := KX.out.cell 0 _ rfl
  have y1 := KX.out.cell 1 _ rfl
  have y2 := KX.out.cell 2 _ rfl
  have y3 := KX.out.cell 3 _ rfl
  go_wp2_with fail
  clear y0 y1 y2 y3
  refine (implIsAuction_any A1 xs.length c1 xs _ rfl HR1.out (by omega)).mono ?_
  rintro e w5 ⟨rfl, b⟩
  rw [← HQ.out]
  have Bw5 := Lib.hid (Bw4.out.trans (b.mono Bw4.out.size))
  have HR1' := Lib.hid (HR1.out.below b)
  clear HR1
  have HR1 := HR1'
  clear HR1'
  have HRv3' := Lib.hid (HRv3.out.below b)
  clear HRv3
  have HRv3 := HRv3'
  clear HRv3'
  have KX' := Lib.hid (KX.out.below b KX.out.lt)
  clear KX
  have KX := KX'
  clear KX'
  clear b
  have y0 := KX.out.cell 0 _ rfl
  have y1 := KX.out.cell 1 _ rfl
  have y2 := KX.out.cell 2 _ rfl
  have y3 := KX.out.cell 3 _ rfl
  go_wp2_with fail
  clear y0 y1 y2 y3
  refine (specIsAuction_any A1 xs.length c1 xs _ rfl HR1.out (by omega)).mono ?_
  rintro e w6 ⟨rfl, b⟩
  rw [← HQ.out]
  have Bw6 := Lib.hid (Bw5.out.trans (b.mono Bw5.out.size))
  have HR1' := Lib.hid (HR1.out.below b)
  clear HR1
  have HR1 := HR1'
  clear HR1'
  have HRv3' := Lib.hid (HRv3.out.below b)
  clear HRv3
  have HRv3 := HRv3'
  clear HRv3'
  have KX' := Lib.hid (KX.out.below b KX.out.lt)
  clear KX
  have KX := KX'
  clear KX'
  clear b
  cases ok with
  | false =>
    have y0 := KX.out.cell 0 _ rfl
    have y1 := KX.out.cell 1 _ rfl
    have y2 := KX.out.cell 2 _ rfl
    have y3 := KX.out.cell 3 _ rfl
    go_wp2_with fail
    clear y0 y1 y2 y3
    refine (D2.out _ (HY.out.below Bw6.out)).mono ?_
    rintro e w7 ⟨v5, ys, v6, ss, rfl, hl, hl4, b⟩
    have Bw7 := Lib.hid (Bw6.out.trans (b.mono Bw6.out.size))
    clear KX
    obtain ⟨A5, c5, rfl, r5, h5, h5m⟩ := hl.form
    obtain ⟨A6, c6, rfl, r6, h6, h6m⟩ := hl4.form
    have hy := hl.len
    have hs60 := hl4.len
    have HR5 := Lib.hid r5
    have HR6 := Lib.hid r6
    clear r5 r6 hl hl4 b
    obtain ⟨told, h_told⟩ : ∃ told, told = runB ys ss := ⟨_, rfl⟩
    have HT := Lib.hid h_told
    clear h_told
    obtain ⟨E, h_E⟩ : ∃ E, E = runV ys ss := ⟨_, rfl⟩
    have HE := Lib.hid h_E
    clear h_E
    obtain ⟨m, h_m⟩ : ∃ m, m = runK ys ss := ⟨_, rfl⟩
    have HM := Lib.hid h_m
    clear h_m
    have hE := runV_len ys ss
    rw [← HE.out] at hE
    have hmm : (m != m) = false := by simp
    have htt : (told != told) = false := by cases told <;> rfl
    go_wp2_with fail
    refine (implRunAuction_any A5 ys.length c5 ys A6 ss.length c6 ss _ rfl HR5.out (by omega) rfl HR6.out (by omega)).mono ?_
    rintro e w8 ⟨v7, rfl, o, b⟩
    rw [← HT.out, ← HM.out]
    rw [← HE.out] at o
    obtain ⟨Av7, cv7, rfl⟩ := own_form o
    have Bw8 := Lib.hid (Bw7.out.trans (b.mono Bw7.out.size))
    have HR5' := Lib.hid (HR5.out.below b)
    clear HR5
    have HR5 := HR5'
    clear HR5'
    have HR6' := Lib.hid (HR6.out.below b)
    clear HR6
    have HR6 := HR6'
    clear HR6'
    have HRv7 := Lib.hid (Rd.of_own o)
    clear o b
    go_wp2_with fail
    refine (specRunAuction_any A5 ys.length c5 ys A6 ss.length c6 ss _ rfl HR5.out (by omega) rfl HR6.out (by omega)).mono ?_
    rintro e w9 ⟨v8, rfl, o, b⟩
    rw [← HT.out, ← HM.out]
    rw [← HE.out] at o
    obtain ⟨Av8, cv8, rfl⟩ := own_form o
    have Bw9 := Lib.hid (Bw8.out.trans (b.mono Bw8.out.size))
    have HR5' := Lib.hid (HR5.out.below b)
    clear HR5
    have HR5 := HR5'
    clear HR5'
    have HR6' := Lib.hid (HR6.out.below b)
    clear HR6
    have HR6 := HR6'
    clear HR6'
    have HRv7' := Lib.hid (HRv7.out.below b)
    clear HRv7
    have HRv7 := HRv7'
    clear HRv7'
    have HRv8 := Lib.hid (Rd.of_own o)
    clear o b
    go_wp2_with fail
    refine (vSaleLots_same _ _ _ _ _ E _ rfl HRv7.out HRv8.out (by omega)).mono ?_
    rintro e w10 ⟨rfl, b⟩
    have Bw10 := Lib.hid (Bw9.out.trans (b.mono Bw9.out.size))
    have HR5' := Lib.hid (HR5.out.below b)
    clear HR5
    have HR5 := HR5'
    clear HR5'
    have HR6' := Lib.hid (HR6.out.below b)
    clear HR6
    have HR6 := HR6'
    clear HR6'
    have HRv7' := Lib.hid (HRv7.out.below b)
    clear HRv7
    have HRv7 := HRv7'
    clear HRv7'
    clear b
    cases told with
    | false =>
      go_wp2
      go_ret
      exact ⟨rfl, Bw10.out⟩
    | true =>
      have hau : auc ys = true := by have := HT.out.symm; simp only [runB, Bool.and_eq_true] at this; exact this.1
      have HAU := Lib.hid hau
      clear hau
      obtain ⟨e1, e2⟩ := run_yes HT.out.symm
      rw [← HE.out] at e1
      rw [← HM.out] at e2
      have HE1 := Lib.hid e1
      have HE2 := Lib.hid e2
      clear e1 e2
      go_wp2_with fail
      go_loopw [24, 25, 26, 27, 28] (fun vn md i _ _ wr => ∃ (j : Nat) (An : Option Addr) (cn : Nat), i = .int .i64 j ∧ j ≤ ss.length ∧ md = .int .i64 (runN ys (ss.take j) : Nat) ∧ vn = .slice An (runL ys (ss.take j)).length cn ∧ Rd wr An (cells5 (runL ys (ss.take j))) ∧ Below w10.heap.size w10 wr) (fun _ _ i _ _ _ => ss.length - (intOf i).toNat)
      case atStart => exact ⟨0, A5, c5, rfl, by omega, rfl, rfl, HR5.out, Below.refl _ _⟩
      case round =>
        obtain ⟨j, An, cn, rfl, hj, rfl, rfl, hO, hb⟩ := hrel
        have hmd := runN_take ys ss j
        obtain ⟨now, hnow⟩ : ∃ now, now = runL ys (ss.take j) := ⟨_, rfl⟩
        obtain ⟨md, hmdE⟩ : ∃ md, md = runN ys (ss.take j) := ⟨_, rfl⟩
        rw [← hnow] at hO ⊢
        rw [← hmdE] at hmd ⊢
        have HNOW := Lib.hid hnow
        have HMD := Lib.hid hmdE
        have HAN : Hid (auc now = true) := Lib.hid (by rw [hnow]; exact runL_auc HAU.out)
        have hn8 := auc_len HAN.out
        have HO := Lib.hid hO
        have HBW := Lib.hid hb
        have hsz := hb.size
        clear hO hb hnow hmdE
        by_cases hlt_ : j < ss.length
        · have hltd : (j : Int) < (ss.length : Int) := by omega
          have hj0 : (0 : Int) ≤ j := by omega
          obtain ⟨s, hs⟩ : ∃ s, ss[j]? = some s := ⟨_, List.getElem?_eq_getElem hlt_⟩
          obtain ⟨g, o, eA, hg, c0, c1_, c2, c3_⟩ := (HR6.out.below HBW.out).at4 hs
          subst eA
          obtain ⟨en, em⟩ := run_next (xs := ys) hs
          rw [← HNOW.out] at en em
          rw [← HMD.out] at em
          have HEN := Lib.hid en
          have HEM := Lib.hid em
          clear en em hs
          have hmd40 : IntKind.i64.wrap ((md : Int) + 1) = (md : Int) + 1 := IntWalk.i64_in _ (by omega)
          go_wp2_with fail
          refine (implStepAuction_any An now.length cn now s.a s.b s.c s.d _ rfl HO.out (by omega)).mono ?_
          rintro e wb ⟨v9, rfl, o9, b9⟩
          clear c0 c1_ c2 c3_
          have hrs : stpB now s.a s.b s.c s.d = runO now s := by simp [stpB, runO, HAN.out]
          rw [hrs]
          have HO9 : Hid (runO now s = true → wb.ownsRow wr.heap.size 36 5 v9 (runS now s).length (cells5 (runS now s))) := Lib.hid (fun h => by rw [← hrs] at h; have := (stp_auc h).2.2.2.2; rw [hrs] at h; rw [(runO_yes h).2.2, ← this]; exact o9)
          obtain ⟨A9, c9, e9⟩ := own_form o9
          subst e9
          have HOb := Lib.hid (HO.out.below b9)
          have HBb := Lib.hid (HBW.out.trans (b9.mono hsz))
          clear o9 b9 hrs
          cases hr : runO now s with
          | false =>
            have HR := Lib.hid hr
            clear hr HO9
            go_wp2
            go_roundw
            case rel => exact ⟨j + 1, An, cn, by go_num, by omega, by rw [HEM.out, HR.out]; go_num, by rw [HEN.out, runO_no HR.out], by rw [HEN.out, runO_no HR.out]; exact HOb.out, HBb.out⟩
            case measure => simp [intOf]; omega
          | true =>
            have HR := Lib.hid hr
            have HOc := Lib.hid (HO9.out hr)
            clear hr HO9
            have hform := own_form HOc.out
            obtain ⟨A10, c10, e10⟩ := hform
            rw [e10] at HOc ⊢
            clear e10
            go_wp2
            go_roundw
            case rel => exact ⟨j + 1, A10, c10, by go_num, by omega, by rw [HEM.out, HR.out]; go_num, by rw [HEN.out], by rw [HEN.out]; exact Rd.of_own HOc.out, HBb.out⟩
            case measure => simp [intOf]; omega
        · have hge : (ss.length : Int) ≤ j := by omega
          have htk : ss.take j = ss := List.take_of_length_le (by omega)
          have h1 := HNOW.out; rw [htk, ← HE1.out] at h1
          have h2 := HMD.out; rw [htk] at h2
          have hcn : ((md : Int) != m) = false := by rw [HE2.out, h2]; simp
          subst h1
          clear htk h2
          go_wp2_with fail
          refine (vSaleLots_same _ _ _ _ _ now _ rfl HO.out (HRv7.out.below HBW.out) (by omega)).mono ?_
          rintro e wz ⟨rfl, bz⟩
          go_wp2
          go_ret
          exact ⟨rfl, Bw10.out.trans ((HBW.out.trans (bz.mono hsz)).mono Bw10.out.size)⟩
  | true =>
    obtain ⟨p1, p2, p3, p4, p5⟩ := stp_auc HOK.out.symm
    rw [← HS.out] at p1 p5
    have HP1 := Lib.hid p1
    have HP2 := Lib.hid p2
    have hso : stO xs q1 q2 q3 q4 = some S := by cases ho : stO xs q1 q2 q3 q4 with | none => (rw [stB, ho] at p4; cases p4) | some l => (rw [p5, stL, ho]; rfl)
    obtain ⟨-, f2, f3, f4⟩ := step_fact p2 p3 hso
    have F2 := Lib.hid f2
    have F4 := Lib.hid f4
    have F3 := Lib.hid f3
    clear p1 p2 p3 p4 p5 hso f2 f3 f4
    have y0 := KX.out.cell 0 _ rfl
    have y1 := KX.out.cell 1 _ rfl
    have y2 := KX.out.cell 2 _ rfl
    have y3 := KX.out.cell 3 _ rfl
    go_wp2_with fail
    clear y0 y1 y2 y3
    refine (implIsAuction_any Av3 S.length cv3 S _ rfl HRv3.out (by omega)).mono ?_
    rintro e w11 ⟨rfl, b⟩
    rw [HP1.out]
    have Bw11 := Lib.hid (Bw6.out.trans (b.mono Bw6.out.size))
    have HR1' := Lib.hid (HR1.out.below b)
    clear HR1
    have HR1 := HR1'
    clear HR1'
    have HRv3' := Lib.hid (HRv3.out.below b)
    clear HRv3
    have HRv3 := HRv3'
    clear HRv3'
    have KX' := Lib.hid (KX.out.below b KX.out.lt)
    clear KX
    have KX := KX'
    clear KX'
    clear b
    obtain ⟨lb, h_lb⟩ : ∃ lb, lb = lbV xs := ⟨_, rfl⟩
    have HLB := Lib.hid h_lb
    clear h_lb
    obtain ⟨lo, h_lo⟩ : ∃ lo, lo = lbOK xs := ⟨_, rfl⟩
    have HLO := Lib.hid h_lo
    clear h_lo
    have y0 := KX.out.cell 0 _ rfl
    have y1 := KX.out.cell 1 _ rfl
    have y2 := KX.out.cell 2 _ rfl
    have y3 := KX.out.cell 3 _ rfl
    go_wp2_with fail
    clear y0 y1 y2 y3
    refine (implLeastBid_any A1 xs.length c1 xs _ rfl HR1.out (by omega)).mono ?_
    rintro e w12 ⟨rfl, b⟩
    rw [← HLB.out, ← HLO.out]
    have Bw12 := Lib.hid (Bw11.out.trans (b.mono Bw11.out.size))
    have HR1' := Lib.hid (HR1.out.below b)
    clear HR1
    have HR1 := HR1'
    clear HR1'
    have HRv3' := Lib.hid (HRv3.out.below b)
    clear HRv3
    have HRv3 := HRv3'
    clear HRv3'
    have KX' := Lib.hid (KX.out.below b KX.out.lt)
    clear KX
    have KX := KX'
    clear KX'
    clear b
    by_cases hk : q1 = 4
    · have hk4 : (q1 == 4) = true := by simpa using hk
      have hl1 : lo = true := by rw [HLO.out]; exact (F2.out hk).1
      subst hl1
      have hl2 : decide (q4 < lb) = false := by have := (F2.out hk).2; rw [← HLB.out] at this; simp; omega
      have HK := Lib.hid hk
      clear hk
      have y0 := KX.out.cell 0 _ rfl
      have y1 := KX.out.cell 1 _ rfl
      have y2 := KX.out.cell 2 _ rfl
      have y3 := KX.out.cell 3 _ rfl
      go_wp2_with fail
      clear y0 y1 y2 y3
      go_loopw [11] (fun i wr => ∃ t : Nat, i = .int .i64 t ∧ t ≤ S.length ∧ Below w12.heap.size w12 wr) (fun i _ => S.length - (intOf i).toNat)
      case atStart => exact ⟨0, rfl, by omega, Below.refl _ _⟩
      case round =>
        obtain ⟨t, rfl, ht, hbw⟩ := hrel
        have HBW := Lib.hid hbw
        have hsw := hbw.size
        clear hbw
        by_cases htl : t < S.length
        · have htl' : (t : Int) < (S.length : Int) := by omega
          obtain ⟨z, ez⟩ : ∃ z, S[t]? = some z := ⟨_, List.getElem?_eq_getElem htl⟩
          obtain ⟨gz, oz, eAz, hgz, c0, c1_, c2, c3, c4⟩ := (HRv3.out.below HBW.out).at5 ez
          subst eAz
          have HSH := Lib.hid (fun h => sold_high HP1.out ez h)
          have ht0 : (0 : Int) ≤ (t : Int) := by omega
          clear ez
          by_cases hc : z.c = 2
          · have hcd : (z.c == 2) = true := by simpa using hc
            have hdd : decide (z.d < z.b) = false := by have := HSH.out hc; simp; omega
            clear hc HSH
            go_wp2_with fail
            refine wp_region_lat wr.heap.size (by kernel_rfl) (by kernel_rfl) ?_
            have LC := fun (u : Lat wr.heap.size wr) => u.cell
            repeat (go_big_quiet_step (fail))
            refine wpQuiet_nil ?_
            intro wb b1
            clear LC
            have HBB := Lib.hid (HBW.out.trans (b1.mono hsw))
            clear c0 c1_ c2 c3 c4 b1
            go_wp2
            go_roundw
            case rel => exact ⟨t + 1, by go_num, by omega, HBB.out⟩
            case measure => simp [intOf]; omega
          · have hcd : (z.c == 2) = false := by simpa using hc
            clear hc HSH
            go_wp2_with fail
            refine wp_region_lat wr.heap.size (by kernel_rfl) (by kernel_rfl) ?_
            have LC := fun (u : Lat wr.heap.size wr) => u.cell
            repeat (go_big_quiet_step (fail))
            refine wpQuiet_nil ?_
            intro wb b1
            clear LC
            have HBB := Lib.hid (HBW.out.trans (b1.mono hsw))
            clear c0 c1_ c2 c3 c4 b1
            go_wp2
            go_roundw
            case rel => exact ⟨t + 1, by go_num, by omega, HBB.out⟩
            case measure => simp [intOf]; omega
        · obtain rfl : t = S.length := by omega
          have Bwr := Lib.hid (Bw12.out.trans (HBW.out.mono Bw12.out.size))
          have HR1' := Lib.hid (HR1.out.below HBW.out)
          clear HR1
          have HR1 := HR1'
          clear HR1'
          have HRv3' := Lib.hid (HRv3.out.below HBW.out)
          clear HRv3
          have HRv3 := HRv3'
          clear HRv3'
          have KX' := Lib.hid (KX.out.below HBW.out KX.out.lt)
          clear KX
          have KX := KX'
          clear KX'
          obtain ⟨t1, h_t1⟩ : ∃ t1, t1 = turnV xs := ⟨_, rfl⟩
          have HT1 := Lib.hid h_t1
          clear h_t1
          obtain ⟨t2, h_t2⟩ : ∃ t2, t2 = turnV S := ⟨_, rfl⟩
          have HT2 := Lib.hid h_t2
          clear h_t2
          have ht1 : turnV xs = sumD (pSold 0) xs := by rw [turnV, HP2.out]; rfl
          have ht2 : turnV S = sumD (pSold 0) S := by rw [turnV, HP1.out]; rfl
          have hlt : decide (t2 < t1) = false := by have := F3.out; rw [← ht1, ← ht2, ← HT1.out, ← HT2.out] at this; simp; omega
          have y0 := KX.out.cell 0 _ rfl
          have y1 := KX.out.cell 1 _ rfl
          have y2 := KX.out.cell 2 _ rfl
          have y3 := KX.out.cell 3 _ rfl
          go_wp2_with fail
          clear y0 y1 y2 y3
          refine (implTurnoverOf_any A1 xs.length c1 xs _ rfl HR1.out (by omega)).mono ?_
          rintro e w13 ⟨rfl, b⟩
          rw [← HT1.out, HP2.out]
          have Bw13 := Lib.hid (Bwr.out.trans (b.mono Bwr.out.size))
          have HR1' := Lib.hid (HR1.out.below b)
          clear HR1
          have HR1 := HR1'
          clear HR1'
          have HRv3' := Lib.hid (HRv3.out.below b)
          clear HRv3
          have HRv3 := HRv3'
          clear HRv3'
          have KX' := Lib.hid (KX.out.below b KX.out.lt)
          clear KX
          have KX := KX'
          clear KX'
          clear b
          have y0 := KX.out.cell 0 _ rfl
          have y1 := KX.out.cell 1 _ rfl
          have y2 := KX.out.cell 2 _ rfl
          have y3 := KX.out.cell 3 _ rfl
          go_wp2_with fail
          clear y0 y1 y2 y3
          refine (implTurnoverOf_any Av3 S.length cv3 S _ rfl HRv3.out (by omega)).mono ?_
          rintro e w14 ⟨rfl, b⟩
          rw [← HT2.out, HP1.out]
          have Bw14 := Lib.hid (Bw13.out.trans (b.mono Bw13.out.size))
          have HR1' := Lib.hid (HR1.out.below b)
          clear HR1
          have HR1 := HR1'
          clear HR1'
          have HRv3' := Lib.hid (HRv3.out.below b)
          clear HRv3
          have HRv3 := HRv3'
          clear HRv3'
          have KX' := Lib.hid (KX.out.below b KX.out.lt)
          clear KX
          have KX := KX'
          clear KX'
          clear b
          have F5 := Lib.hid (fun h => by have := F4.out h; rw [← ht1, ← ht2, ← HT1.out, ← HT2.out] at this; exact this : q1 ≠ 5 → t2 = t1)
          clear ht1 ht2
          by_cases hk5 : q1 = 5
          · have hk5d : (q1 != 5) = false := by simpa using hk5
            clear hk5
            have y0 := KX.out.cell 0 _ rfl
            have y1 := KX.out.cell 1 _ rfl
            have y2 := KX.out.cell 2 _ rfl
            have y3 := KX.out.cell 3 _ rfl
            go_wp2_with fail
            clear y0 y1 y2 y3
            refine (D2.out _ (HY.out.below Bw14.out)).mono ?_
            rintro e w15 ⟨v5, ys, v6, ss, rfl, hl, hl4, b⟩
            have Bw15 := Lib.hid (Bw14.out.trans (b.mono Bw14.out.size))
            clear KX
            obtain ⟨A5, c5, rfl, r5, h5, h5m⟩ := hl.form
            obtain ⟨A6, c6, rfl, r6, h6, h6m⟩ := hl4.form
            have hy := hl.len
            have hs60 := hl4.len
            have HR5 := Lib.hid r5
            have HR6 := Lib.hid r6
            clear r5 r6 hl hl4 b
            obtain ⟨told, h_told⟩ : ∃ told, told = runB ys ss := ⟨_, rfl⟩
            have HT := Lib.hid h_told
            clear h_told
            obtain ⟨E, h_E⟩ : ∃ E, E = runV ys ss := ⟨_, rfl⟩
            have HE := Lib.hid h_E
            clear h_E
            obtain ⟨m, h_m⟩ : ∃ m, m = runK ys ss := ⟨_, rfl⟩
            have HM := Lib.hid h_m
            clear h_m
            have hE := runV_len ys ss
            rw [← HE.out] at hE
            have hmm : (m != m) = false := by simp
            have htt : (told != told) = false := by cases told <;> rfl
            go_wp2_with fail
            refine (implRunAuction_any A5 ys.length c5 ys A6 ss.length c6 ss _ rfl HR5.out (by omega) rfl HR6.out (by omega)).mono ?_
            rintro e w16 ⟨v7, rfl, o, b⟩
            rw [← HT.out, ← HM.out]
            rw [← HE.out] at o
            obtain ⟨Av7, cv7, rfl⟩ := own_form o
            have Bw16 := Lib.hid (Bw15.out.trans (b.mono Bw15.out.size))
            have HR5' := Lib.hid (HR5.out.below b)
            clear HR5
            have HR5 := HR5'
            clear HR5'
            have HR6' := Lib.hid (HR6.out.below b)
            clear HR6
            have HR6 := HR6'
            clear HR6'
            have HRv7 := Lib.hid (Rd.of_own o)
            clear o b
            go_wp2_with fail
            refine (specRunAuction_any A5 ys.length c5 ys A6 ss.length c6 ss _ rfl HR5.out (by omega) rfl HR6.out (by omega)).mono ?_
            rintro e w17 ⟨v8, rfl, o, b⟩
            rw [← HT.out, ← HM.out]
            rw [← HE.out] at o
            obtain ⟨Av8, cv8, rfl⟩ := own_form o
            have Bw17 := Lib.hid (Bw16.out.trans (b.mono Bw16.out.size))
            have HR5' := Lib.hid (HR5.out.below b)
            clear HR5
            have HR5 := HR5'
            clear HR5'
            have HR6' := Lib.hid (HR6.out.below b)
            clear HR6
            have HR6 := HR6'
            clear HR6'
            have HRv7' := Lib.hid (HRv7.out.below b)
            clear HRv7
            have HRv7 := HRv7'
            clear HRv7'
            have HRv8 := Lib.hid (Rd.of_own o)
            clear o b
            go_wp2_with fail
            refine (vSaleLots_same _ _ _ _ _ E _ rfl HRv7.out HRv8.out (by omega)).mono ?_
            rintro e w18 ⟨rfl, b⟩
            have Bw18 := Lib.hid (Bw17.out.trans (b.mono Bw17.out.size))
            have HR5' := Lib.hid (HR5.out.below b)
            clear HR5
            have HR5 := HR5'
            clear HR5'
            have HR6' := Lib.hid (HR6.out.below b)
            clear HR6
            have HR6 := HR6'
            clear HR6'
            have HRv7' := Lib.hid (HRv7.out.below b)
            clear HRv7
            have HRv7 := HRv7'
            clear HRv7'
            clear b
            cases told with
            | false =>
              go_wp2
              go_ret
              exact ⟨rfl, Bw18.out⟩
            | true =>
              have hau : auc ys = true := by have := HT.out.symm; simp only [runB, Bool.and_eq_true] at this; exact this.1
              have HAU := Lib.hid hau
              clear hau
              obtain ⟨e1, e2⟩ := run_yes HT.out.symm
              rw [← HE.out] at e1
              rw [← HM.out] at e2
              have HE1 := Lib.hid e1
              have HE2 := Lib.hid e2
              clear e1 e2
              go_wp2_with fail
              go_loopw [24, 25, 26, 27, 28] (fun vn md i _ _ wr => ∃ (j : Nat) (An : Option Addr) (cn : Nat), i = .int .i64 j ∧ j ≤ ss.length ∧ md = .int .i64 (runN ys (ss.take j) : Nat) ∧ vn = .slice An (runL ys (ss.take j)).length cn ∧ Rd wr An (cells5 (runL ys (ss.take j))) ∧ Below w18.heap.size w18 wr) (fun _ _ i _ _ _ => ss.length - (intOf i).toNat)
              case atStart => exact ⟨0, A5, c5, rfl, by omega, rfl, rfl, HR5.out, Below.refl _ _⟩
              case round =>
                obtain ⟨j, An, cn, rfl, hj, rfl, rfl, hO, hb⟩ := hrel
                have hmd := runN_take ys ss j
                obtain ⟨now, hnow⟩ : ∃ now, now = runL ys (ss.take j) := ⟨_, rfl⟩
                obtain ⟨md, hmdE⟩ : ∃ md, md = runN ys (ss.take j) := ⟨_, rfl⟩
                rw [← hnow] at hO ⊢
                rw [← hmdE] at hmd ⊢
                have HNOW := Lib.hid hnow
                have HMD := Lib.hid hmdE
                have HAN : Hid (auc now = true) := Lib.hid (by rw [hnow]; exact runL_auc HAU.out)
                have hn8 := auc_len HAN.out
                have HO := Lib.hid hO
                have HBW := Lib.hid hb
                have hsz := hb.size
                clear hO hb hnow hmdE
                by_cases hlt_ : j < ss.length
                · have hltd : (j : Int) < (ss.length : Int) := by omega
                  have hj0 : (0 : Int) ≤ j := by omega
                  obtain ⟨s, hs⟩ : ∃ s, ss[j]? = some s := ⟨_, List.getElem?_eq_getElem hlt_⟩
                  obtain ⟨g, o, eA, hg, c0, c1_, c2, c3_⟩ := (HR6.out.below HBW.out).at4 hs
                  subst eA
                  obtain ⟨en, em⟩ := run_next (xs := ys) hs
                  rw [← HNOW.out] at en em
                  rw [← HMD.out] at em
                  have HEN := Lib.hid en
                  have HEM := Lib.hid em
                  clear en em hs
                  have hmd40 : IntKind.i64.wrap ((md : Int) + 1) = (md : Int) + 1 := IntWalk.i64_in _ (by omega)
                  go_wp2_with fail
                  refine (implStepAuction_any An now.length cn now s.a s.b s.c s.d _ rfl HO.out (by omega)).mono ?_
                  rintro e wb ⟨v9, rfl, o9, b9⟩
                  clear c0 c1_ c2 c3_
                  have hrs : stpB now s.a s.b s.c s.d = runO now s := by simp [stpB, runO, HAN.out]
                  rw [hrs]
                  have HO9 : Hid (runO now s = true → wb.ownsRow wr.heap.size 36 5 v9 (runS now s).length (cells5 (runS now s))) := Lib.hid (fun h => by rw [← hrs] at h; have := (stp_auc h).2.2.2.2; rw [hrs] at h; rw [(runO_yes h).2.2, ← this]; exact o9)
                  obtain ⟨A9, c9, e9⟩ := own_form o9
                  subst e9
                  have HOb := Lib.hid (HO.out.below b9)
                  have HBb := Lib.hid (HBW.out.trans (b9.mono hsz))
                  clear o9 b9 hrs
                  cases hr : runO now s with
                  | false =>
                    have HR := Lib.hid hr
                    clear hr HO9
                    go_wp2
                    go_roundw
                    case rel => exact ⟨j + 1, An, cn, by go_num, by omega, by rw [HEM.out, HR.out]; go_num, by rw [HEN.out, runO_no HR.out], by rw [HEN.out, runO_no HR.out]; exact HOb.out, HBb.out⟩
                    case measure => simp [intOf]; omega
                  | true =>
                    have HR := Lib.hid hr
                    have HOc := Lib.hid (HO9.out hr)
                    clear hr HO9
                    have hform := own_form HOc.out
                    obtain ⟨A10, c10, e10⟩ := hform
                    rw [e10] at HOc ⊢
                    clear e10
                    go_wp2
                    go_roundw
                    case rel => exact ⟨j + 1, A10, c10, by go_num, by omega, by rw [HEM.out, HR.out]; go_num, by rw [HEN.out], by rw [HEN.out]; exact Rd.of_own HOc.out, HBb.out⟩
                    case measure => simp [intOf]; omega
                · have hge : (ss.length : Int) ≤ j := by omega
                  have htk : ss.take j = ss := List.take_of_length_le (by omega)
                  have h1 := HNOW.out; rw [htk, ← HE1.out] at h1
                  have h2 := HMD.out; rw [htk] at h2
                  have hcn : ((md : Int) != m) = false := by rw [HE2.out, h2]; simp
                  subst h1
                  clear htk h2
                  go_wp2_with fail
                  refine (vSaleLots_same _ _ _ _ _ now _ rfl HO.out (HRv7.out.below HBW.out) (by omega)).mono ?_
                  rintro e wz ⟨rfl, bz⟩
                  go_wp2
                  go_ret
                  exact ⟨rfl, Bw18.out.trans ((HBW.out.trans (bz.mono hsz)).mono Bw18.out.size)⟩
          · have hk5d : (q1 != 5) = true := by simpa using hk5
            have htd : (t2 != t1) = false := by simpa using F5.out hk5
            clear hk5
            have y0 := KX.out.cell 0 _ rfl
            have y1 := KX.out.cell 1 _ rfl
            have y2 := KX.out.cell 2 _ rfl
            have y3 := KX.out.cell 3 _ rfl
            go_wp2_with fail
            clear y0 y1 y2 y3
            refine (D2.out _ (HY.out.below Bw14.out)).mono ?_
            rintro e w19 ⟨v5, ys, v6, ss, rfl, hl, hl4, b⟩
            have Bw19 := Lib.hid (Bw14.out.trans (b.mono Bw14.out.size))
            clear KX
            obtain ⟨A5, c5, rfl, r5, h5, h5m⟩ := hl.form
            obtain ⟨A6, c6, rfl, r6, h6, h6m⟩ := hl4.form
            have hy := hl.len
            have hs60 := hl4.len
            have HR5 := Lib.hid r5
            have HR6 := Lib.hid r6
            clear r5 r6 hl hl4 b
            obtain ⟨told, h_told⟩ : ∃ told, told = runB ys ss := ⟨_, rfl⟩
            have HT := Lib.hid h_told
            clear h_told
            obtain ⟨E, h_E⟩ : ∃ E, E = runV ys ss := ⟨_, rfl⟩
            have HE := Lib.hid h_E
            clear h_E
            obtain ⟨m, h_m⟩ : ∃ m, m = runK ys ss := ⟨_, rfl⟩
            have HM := Lib.hid h_m
            clear h_m
            have hE := runV_len ys ss
            rw [← HE.out] at hE
            have hmm : (m != m) = false := by simp
            have htt : (told != told) = false := by cases told <;> rfl
            go_wp2_with fail
            refine (implRunAuction_any A5 ys.length c5 ys A6 ss.length c6 ss _ rfl HR5.out (by omega) rfl HR6.out (by omega)).mono ?_
            rintro e w20 ⟨v7, rfl, o, b⟩
            rw [← HT.out, ← HM.out]
            rw [← HE.out] at o
            obtain ⟨Av7, cv7, rfl⟩ := own_form o
            have Bw20 := Lib.hid (Bw19.out.trans (b.mono Bw19.out.size))
            have HR5' := Lib.hid (HR5.out.below b)
            clear HR5
            have HR5 := HR5'
            clear HR5'
            have HR6' := Lib.hid (HR6.out.below b)
            clear HR6
            have HR6 := HR6'
            clear HR6'
            have HRv7 := Lib.hid (Rd.of_own o)
            clear o b
            go_wp2_with fail
            refine (specRunAuction_any A5 ys.length c5 ys A6 ss.length c6 ss _ rfl HR5.out (by omega) rfl HR6.out (by omega)).mono ?_
            rintro e w21 ⟨v8, rfl, o, b⟩
            rw [← HT.out, ← HM.out]
            rw [← HE.out] at o
            obtain ⟨Av8, cv8, rfl⟩ := own_form o
            have Bw21 := Lib.hid (Bw20.out.trans (b.mono Bw20.out.size))
            have HR5' := Lib.hid (HR5.out.below b)
            clear HR5
            have HR5 := HR5'
            clear HR5'
            have HR6' := Lib.hid (HR6.out.below b)
            clear HR6
            have HR6 := HR6'
            clear HR6'
            have HRv7' := Lib.hid (HRv7.out.below b)
            clear HRv7
            have HRv7 := HRv7'
            clear HRv7'
            have HRv8 := Lib.hid (Rd.of_own o)
            clear o b
            go_wp2_with fail
            refine (vSaleLots_same _ _ _ _ _ E _ rfl HRv7.out HRv8.out (by omega)).mono ?_
            rintro e w22 ⟨rfl, b⟩
            have Bw22 := Lib.hid (Bw21.out.trans (b.mono Bw21.out.size))
            have HR5' := Lib.hid (HR5.out.below b)
            clear HR5
            have HR5 := HR5'
            clear HR5'
            have HR6' := Lib.hid (HR6.out.below b)
            clear HR6
            have HR6 := HR6'
            clear HR6'
            have HRv7' := Lib.hid (HRv7.out.below b)
            clear HRv7
            have HRv7 := HRv7'
            clear HRv7'
            clear b
            cases told with
            | false =>
              go_wp2
              go_ret
              exact ⟨rfl, Bw22.out⟩
            | true =>
              have hau : auc ys = true := by have := HT.out.symm; simp only [runB, Bool.and_eq_true] at this; exact this.1
              have HAU := Lib.hid hau
              clear hau
              obtain ⟨e1, e2⟩ := run_yes HT.out.symm
              rw [← HE.out] at e1
              rw [← HM.out] at e2
              have HE1 := Lib.hid e1
              have HE2 := Lib.hid e2
              clear e1 e2
              go_wp2_with fail
              go_loopw [24, 25, 26, 27, 28] (fun vn md i _ _ wr => ∃ (j : Nat) (An : Option Addr) (cn : Nat), i = .int .i64 j ∧ j ≤ ss.length ∧ md = .int .i64 (runN ys (ss.take j) : Nat) ∧ vn = .slice An (runL ys (ss.take j)).length cn ∧ Rd wr An (cells5 (runL ys (ss.take j))) ∧ Below w22.heap.size w22 wr) (fun _ _ i _ _ _ => ss.length - (intOf i).toNat)
              case atStart => exact ⟨0, A5, c5, rfl, by omega, rfl, rfl, HR5.out, Below.refl _ _⟩
              case round =>
                obtain ⟨j, An, cn, rfl, hj, rfl, rfl, hO, hb⟩ := hrel
                have hmd := runN_take ys ss j
                obtain ⟨now, hnow⟩ : ∃ now, now = runL ys (ss.take j) := ⟨_, rfl⟩
                obtain ⟨md, hmdE⟩ : ∃ md, md = runN ys (ss.take j) := ⟨_, rfl⟩
                rw [← hnow] at hO ⊢
                rw [← hmdE] at hmd ⊢
                have HNOW := Lib.hid hnow
                have HMD := Lib.hid hmdE
                have HAN : Hid (auc now = true) := Lib.hid (by rw [hnow]; exact runL_auc HAU.out)
                have hn8 := auc_len HAN.out
                have HO := Lib.hid hO
                have HBW := Lib.hid hb
                have hsz := hb.size
                clear hO hb hnow hmdE
                by_cases hlt_ : j < ss.length
                · have hltd : (j : Int) < (ss.length : Int) := by omega
                  have hj0 : (0 : Int) ≤ j := by omega
                  obtain ⟨s, hs⟩ : ∃ s, ss[j]? = some s := ⟨_, List.getElem?_eq_getElem hlt_⟩
                  obtain ⟨g, o, eA, hg, c0, c1_, c2, c3_⟩ := (HR6.out.below HBW.out).at4 hs
                  subst eA
                  obtain ⟨en, em⟩ := run_next (xs := ys) hs
                  rw [← HNOW.out] at en em
                  rw [← HMD.out] at em
                  have HEN := Lib.hid en
                  have HEM := Lib.hid em
                  clear en em hs
                  have hmd40 : IntKind.i64.wrap ((md : Int) + 1) = (md : Int) + 1 := IntWalk.i64_in _ (by omega)
                  go_wp2_with fail
                  refine (implStepAuction_any An now.length cn now s.a s.b s.c s.d _ rfl HO.out (by omega)).mono ?_
                  rintro e wb ⟨v9, rfl, o9, b9⟩
                  clear c0 c1_ c2 c3_
                  have hrs : stpB now s.a s.b s.c s.d = runO now s := by simp [stpB, runO, HAN.out]
                  rw [hrs]
                  have HO9 : Hid (runO now s = true → wb.ownsRow wr.heap.size 36 5 v9 (runS now s).length (cells5 (runS now s))) := Lib.hid (fun h => by rw [← hrs] at h; have := (stp_auc h).2.2.2.2; rw [hrs] at h; rw [(runO_yes h).2.2, ← this]; exact o9)
                  obtain ⟨A9, c9, e9⟩ := own_form o9
                  subst e9
                  have HOb := Lib.hid (HO.out.below b9)
                  have HBb := Lib.hid (HBW.out.trans (b9.mono hsz))
                  clear o9 b9 hrs
                  cases hr : runO now s with
                  | false =>
                    have HR := Lib.hid hr
                    clear hr HO9
                    go_wp2
                    go_roundw
                    case rel => exact ⟨j + 1, An, cn, by go_num, by omega, by rw [HEM.out, HR.out]; go_num, by rw [HEN.out, runO_no HR.out], by rw [HEN.out, runO_no HR.out]; exact HOb.out, HBb.out⟩
                    case measure => simp [intOf]; omega
                  | true =>
                    have HR := Lib.hid hr
                    have HOc := Lib.hid (HO9.out hr)
                    clear hr HO9
                    have hform := own_form HOc.out
                    obtain ⟨A10, c10, e10⟩ := hform
                    rw [e10] at HOc ⊢
                    clear e10
                    go_wp2
                    go_roundw
                    case rel => exact ⟨j + 1, A10, c10, by go_num, by omega, by rw [HEM.out, HR.out]; go_num, by rw [HEN.out], by rw [HEN.out]; exact Rd.of_own HOc.out, HBb.out⟩
                    case measure => simp [intOf]; omega
                · have hge : (ss.length : Int) ≤ j := by omega
                  have htk : ss.take j = ss := List.take_of_length_le (by omega)
                  have h1 := HNOW.out; rw [htk, ← HE1.out] at h1
                  have h2 := HMD.out; rw [htk] at h2
                  have hcn : ((md : Int) != m) = false := by rw [HE2.out, h2]; simp
                  subst h1
                  clear htk h2
                  go_wp2_with fail
                  refine (vSaleLots_same _ _ _ _ _ now _ rfl HO.out (HRv7.out.below HBW.out) (by omega)).mono ?_
                  rintro e wz ⟨rfl, bz⟩
                  go_wp2
                  go_ret
                  exact ⟨rfl, Bw22.out.trans ((HBW.out.trans (bz.mono hsz)).mono Bw22.out.size)⟩
    · have hk4 : (q1 == 4) = false := by simpa using hk
      have HK := Lib.hid hk
      clear hk
      have y0 := KX.out.cell 0 _ rfl
      have y1 := KX.out.cell 1 _ rfl
      have y2 := KX.out.cell 2 _ rfl
      have y3 := KX.out.cell 3 _ rfl
      go_wp2_with fail
      clear y0 y1 y2 y3
      go_loopw [11] (fun i wr => ∃ t : Nat, i = .int .i64 t ∧ t ≤ S.length ∧ Below w12.heap.size w12 wr) (fun i _ => S.length - (intOf i).toNat)
      case atStart => exact ⟨0, rfl, by omega, Below.refl _ _⟩
      case round =>
        obtain ⟨t, rfl, ht, hbw⟩ := hrel
        have HBW := Lib.hid hbw
        have hsw := hbw.size
        clear hbw
        by_cases htl : t < S.length
        · have htl' : (t : Int) < (S.length : Int) := by omega
          obtain ⟨z, ez⟩ : ∃ z, S[t]? = some z := ⟨_, List.getElem?_eq_getElem htl⟩
          obtain ⟨gz, oz, eAz, hgz, c0, c1_, c2, c3, c4⟩ := (HRv3.out.below HBW.out).at5 ez
          subst eAz
          have HSH := Lib.hid (fun h => sold_high HP1.out ez h)
          have ht0 : (0 : Int) ≤ (t : Int) := by omega
          clear ez
          by_cases hc : z.c = 2
          · have hcd : (z.c == 2) = true := by simpa using hc
            have hdd : decide (z.d < z.b) = false := by have := HSH.out hc; simp; omega
            clear hc HSH
            go_wp2_with fail
            refine wp_region_lat wr.heap.size (by kernel_rfl) (by kernel_rfl) ?_
            have LC := fun (u : Lat wr.heap.size wr) => u.cell
            repeat (go_big_quiet_step (fail))
            refine wpQuiet_nil ?_
            intro wb b1
            clear LC
            have HBB := Lib.hid (HBW.out.trans (b1.mono hsw))
            clear c0 c1_ c2 c3 c4 b1
            go_wp2
            go_roundw
            case rel => exact ⟨t + 1, by go_num, by omega, HBB.out⟩
            case measure => simp [intOf]; omega
          · have hcd : (z.c == 2) = false := by simpa using hc
            clear hc HSH
            go_wp2_with fail
            refine wp_region_lat wr.heap.size (by kernel_rfl) (by kernel_rfl) ?_
            have LC := fun (u : Lat wr.heap.size wr) => u.cell
            repeat (go_big_quiet_step (fail))
            refine wpQuiet_nil ?_
            intro wb b1
            clear LC
            have HBB := Lib.hid (HBW.out.trans (b1.mono hsw))
            clear c0 c1_ c2 c3 c4 b1
            go_wp2
            go_roundw
            case rel => exact ⟨t + 1, by go_num, by omega, HBB.out⟩
            case measure => simp [intOf]; omega
        · obtain rfl : t = S.length := by omega
          have Bwr := Lib.hid (Bw12.out.trans (HBW.out.mono Bw12.out.size))
          have HR1' := Lib.hid (HR1.out.below HBW.out)
          clear HR1
          have HR1 := HR1'
          clear HR1'
          have HRv3' := Lib.hid (HRv3.out.below HBW.out)
          clear HRv3
          have HRv3 := HRv3'
          clear HRv3'
          have KX' := Lib.hid (KX.out.below HBW.out KX.out.lt)
          clear KX
          have KX := KX'
          clear KX'
          obtain ⟨t1, h_t1⟩ : ∃ t1, t1 = turnV xs := ⟨_, rfl⟩
          have HT1 := Lib.hid h_t1
          clear h_t1
          obtain ⟨t2, h_t2⟩ : ∃ t2, t2 = turnV S := ⟨_, rfl⟩
          have HT2 := Lib.hid h_t2
          clear h_t2
          have ht1 : turnV xs = sumD (pSold 0) xs := by rw [turnV, HP2.out]; rfl
          have ht2 : turnV S = sumD (pSold 0) S := by rw [turnV, HP1.out]; rfl
          have hlt : decide (t2 < t1) = false := by have := F3.out; rw [← ht1, ← ht2, ← HT1.out, ← HT2.out] at this; simp; omega
          have y0 := KX.out.cell 0 _ rfl
          have y1 := KX.out.cell 1 _ rfl
          have y2 := KX.out.cell 2 _ rfl
          have y3 := KX.out.cell 3 _ rfl
          go_wp2_with fail
          clear y0 y1 y2 y3
          refine (implTurnoverOf_any A1 xs.length c1 xs _ rfl HR1.out (by omega)).mono ?_
          rintro e w23 ⟨rfl, b⟩
          rw [← HT1.out, HP2.out]
          have Bw23 := Lib.hid (Bwr.out.trans (b.mono Bwr.out.size))
          have HR1' := Lib.hid (HR1.out.below b)
          clear HR1
          have HR1 := HR1'
          clear HR1'
          have HRv3' := Lib.hid (HRv3.out.below b)
          clear HRv3
          have HRv3 := HRv3'
          clear HRv3'
          have KX' := Lib.hid (KX.out.below b KX.out.lt)
          clear KX
          have KX := KX'
          clear KX'
          clear b
          have y0 := KX.out.cell 0 _ rfl
          have y1 := KX.out.cell 1 _ rfl
          have y2 := KX.out.cell 2 _ rfl
          have y3 := KX.out.cell 3 _ rfl
          go_wp2_with fail
          clear y0 y1 y2 y3
          refine (implTurnoverOf_any Av3 S.length cv3 S _ rfl HRv3.out (by omega)).mono ?_
          rintro e w24 ⟨rfl, b⟩
          rw [← HT2.out, HP1.out]
          have Bw24 := Lib.hid (Bw23.out.trans (b.mono Bw23.out.size))
          have HR1' := Lib.hid (HR1.out.below b)
          clear HR1
          have HR1 := HR1'
          clear HR1'
          have HRv3' := Lib.hid (HRv3.out.below b)
          clear HRv3
          have HRv3 := HRv3'
          clear HRv3'
          have KX' := Lib.hid (KX.out.below b KX.out.lt)
          clear KX
          have KX := KX'
          clear KX'
          clear b
          have F5 := Lib.hid (fun h => by have := F4.out h; rw [← ht1, ← ht2, ← HT1.out, ← HT2.out] at this; exact this : q1 ≠ 5 → t2 = t1)
          clear ht1 ht2
          by_cases hk5 : q1 = 5
          · have hk5d : (q1 != 5) = false := by simpa using hk5
            clear hk5
            have y0 := KX.out.cell 0 _ rfl
            have y1 := KX.out.cell 1 _ rfl
            have y2 := KX.out.cell 2 _ rfl
            have y3 := KX.out.cell 3 _ rfl
            go_wp2_with fail
            clear y0 y1 y2 y3
            refine (D2.out _ (HY.out.below Bw24.out)).mono ?_
            rintro e w25 ⟨v5, ys, v6, ss, rfl, hl, hl4, b⟩
            have Bw25 := Lib.hid (Bw24.out.trans (b.mono Bw24.out.size))
            clear KX
            obtain ⟨A5, c5, rfl, r5, h5, h5m⟩ := hl.form
            obtain ⟨A6, c6, rfl, r6, h6, h6m⟩ := hl4.form
            have hy := hl.len
            have hs60 := hl4.len
            have HR5 := Lib.hid r5
            have HR6 := Lib.hid r6
            clear r5 r6 hl hl4 b
            obtain ⟨told, h_told⟩ : ∃ told, told = runB ys ss := ⟨_, rfl⟩
            have HT := Lib.hid h_told
            clear h_told
            obtain ⟨E, h_E⟩ : ∃ E, E = runV ys ss := ⟨_, rfl⟩
            have HE := Lib.hid h_E
            clear h_E
            obtain ⟨m, h_m⟩ : ∃ m, m = runK ys ss := ⟨_, rfl⟩
            have HM := Lib.hid h_m
            clear h_m
            have hE := runV_len ys ss
            rw [← HE.out] at hE
            have hmm : (m != m) = false := by simp
            have htt : (told != told) = false := by cases told <;> rfl
            go_wp2_with fail
            refine (implRunAuction_any A5 ys.length c5 ys A6 ss.length c6 ss _ rfl HR5.out (by omega) rfl HR6.out (by omega)).mono ?_
            rintro e w26 ⟨v7, rfl, o, b⟩
            rw [← HT.out, ← HM.out]
            rw [← HE.out] at o
            obtain ⟨Av7, cv7, rfl⟩ := own_form o
            have Bw26 := Lib.hid (Bw25.out.trans (b.mono Bw25.out.size))
            have HR5' := Lib.hid (HR5.out.below b)
            clear HR5
            have HR5 := HR5'
            clear HR5'
            have HR6' := Lib.hid (HR6.out.below b)
            clear HR6
            have HR6 := HR6'
            clear HR6'
            have HRv7 := Lib.hid (Rd.of_own o)
            clear o b
            go_wp2_with fail
            refine (specRunAuction_any A5 ys.length c5 ys A6 ss.length c6 ss _ rfl HR5.out (by omega) rfl HR6.out (by omega)).mono ?_
            rintro e w27 ⟨v8, rfl, o, b⟩
            rw [← HT.out, ← HM.out]
            rw [← HE.out] at o
            obtain ⟨Av8, cv8, rfl⟩ := own_form o
            have Bw27 := Lib.hid (Bw26.out.trans (b.mono Bw26.out.size))
            have HR5' := Lib.hid (HR5.out.below b)
            clear HR5
            have HR5 := HR5'
            clear HR5'
            have HR6' := Lib.hid (HR6.out.below b)
            clear HR6
            have HR6 := HR6'
            clear HR6'
            have HRv7' := Lib.hid (HRv7.out.below b)
            clear HRv7
            have HRv7 := HRv7'
            clear HRv7'
            have HRv8 := Lib.hid (Rd.of_own o)
            clear o b
            go_wp2_with fail
            refine (vSaleLots_same _ _ _ _ _ E _ rfl HRv7.out HRv8.out (by omega)).mono ?_
            rintro e w28 ⟨rfl, b⟩
            have Bw28 := Lib.hid (Bw27.out.trans (b.mono Bw27.out.size))
            have HR5' := Lib.hid (HR5.out.below b)
            clear HR5
            have HR5 := HR5'
            clear HR5'
            have HR6' := Lib.hid (HR6.out.below b)
            clear HR6
            have HR6 := HR6'
            clear HR6'
            have HRv7' := Lib.hid (HRv7.out.below b)
            clear HRv7
            have HRv7 := HRv7'
            clear HRv7'
            clear b
            cases told with
            | false =>
              go_wp2
              go_ret
              exact ⟨rfl, Bw28.out⟩
            | true =>
              have hau : auc ys = true := by have := HT.out.symm; simp only [runB, Bool.and_eq_true] at this; exact this.1
              have HAU := Lib.hid hau
              clear hau
              obtain ⟨e1, e2⟩ := run_yes HT.out.symm
              rw [← HE.out] at e1
              rw [← HM.out] at e2
              have HE1 := Lib.hid e1
              have HE2 := Lib.hid e2
              clear e1 e2
              go_wp2_with fail
              go_loopw [24, 25, 26, 27, 28] (fun vn md i _ _ wr => ∃ (j : Nat) (An : Option Addr) (cn : Nat), i = .int .i64 j ∧ j ≤ ss.length ∧ md = .int .i64 (runN ys (ss.take j) : Nat) ∧ vn = .slice An (runL ys (ss.take j)).length cn ∧ Rd wr An (cells5 (runL ys (ss.take j))) ∧ Below w28.heap.size w28 wr) (fun _ _ i _ _ _ => ss.length - (intOf i).toNat)
              case atStart => exact ⟨0, A5, c5, rfl, by omega, rfl, rfl, HR5.out, Below.refl _ _⟩
              case round =>
                obtain ⟨j, An, cn, rfl, hj, rfl, rfl, hO, hb⟩ := hrel
                have hmd := runN_take ys ss j
                obtain ⟨now, hnow⟩ : ∃ now, now = runL ys (ss.take j) := ⟨_, rfl⟩
                obtain ⟨md, hmdE⟩ : ∃ md, md = runN ys (ss.take j) := ⟨_, rfl⟩
                rw [← hnow] at hO ⊢
                rw [← hmdE] at hmd ⊢
                have HNOW := Lib.hid hnow
                have HMD := Lib.hid hmdE
                have HAN : Hid (auc now = true) := Lib.hid (by rw [hnow]; exact runL_auc HAU.out)
                have hn8 := auc_len HAN.out
                have HO := Lib.hid hO
                have HBW := Lib.hid hb
                have hsz := hb.size
                clear hO hb hnow hmdE
                by_cases hlt_ : j < ss.length
                · have hltd : (j : Int) < (ss.length : Int) := by omega
                  have hj0 : (0 : Int) ≤ j := by omega
                  obtain ⟨s, hs⟩ : ∃ s, ss[j]? = some s := ⟨_, List.getElem?_eq_getElem hlt_⟩
                  obtain ⟨g, o, eA, hg, c0, c1_, c2, c3_⟩ := (HR6.out.below HBW.out).at4 hs
                  subst eA
                  obtain ⟨en, em⟩ := run_next (xs := ys) hs
                  rw [← HNOW.out] at en em
                  rw [← HMD.out] at em
                  have HEN := Lib.hid en
                  have HEM := Lib.hid em
                  clear en em hs
                  have hmd40 : IntKind.i64.wrap ((md : Int) + 1) = (md : Int) + 1 := IntWalk.i64_in _ (by omega)
                  go_wp2_with fail
                  refine (implStepAuction_any An now.length cn now s.a s.b s.c s.d _ rfl HO.out (by omega)).mono ?_
                  rintro e wb ⟨v9, rfl, o9, b9⟩
                  clear c0 c1_ c2 c3_
                  have hrs : stpB now s.a s.b s.c s.d = runO now s := by simp [stpB, runO, HAN.out]
                  rw [hrs]
                  have HO9 : Hid (runO now s = true → wb.ownsRow wr.heap.size 36 5 v9 (runS now s).length (cells5 (runS now s))) := Lib.hid (fun h => by rw [← hrs] at h; have := (stp_auc h).2.2.2.2; rw [hrs] at h; rw [(runO_yes h).2.2, ← this]; exact o9)
                  obtain ⟨A9, c9, e9⟩ := own_form o9
                  subst e9
                  have HOb := Lib.hid (HO.out.below b9)
                  have HBb := Lib.hid (HBW.out.trans (b9.mono hsz))
                  clear o9 b9 hrs
                  cases hr : runO now s with
                  | false =>
                    have HR := Lib.hid hr
                    clear hr HO9
                    go_wp2
                    go_roundw
                    case rel => exact ⟨j + 1, An, cn, by go_num, by omega, by rw [HEM.out, HR.out]; go_num, by rw [HEN.out, runO_no HR.out], by rw [HEN.out, runO_no HR.out]; exact HOb.out, HBb.out⟩
                    case measure => simp [intOf]; omega
                  | true =>
                    have HR := Lib.hid hr
                    have HOc := Lib.hid (HO9.out hr)
                    clear hr HO9
                    have hform := own_form HOc.out
                    obtain ⟨A10, c10, e10⟩ := hform
                    rw [e10] at HOc ⊢
                    clear e10
                    go_wp2
                    go_roundw
                    case rel => exact ⟨j + 1, A10, c10, by go_num, by omega, by rw [HEM.out, HR.out]; go_num, by rw [HEN.out], by rw [HEN.out]; exact Rd.of_own HOc.out, HBb.out⟩
                    case measure => simp [intOf]; omega
                · have hge : (ss.length : Int) ≤ j := by omega
                  have htk : ss.take j = ss := List.take_of_length_le (by omega)
                  have h1 := HNOW.out; rw [htk, ← HE1.out] at h1
                  have h2 := HMD.out; rw [htk] at h2
                  have hcn : ((md : Int) != m) = false := by rw [HE2.out, h2]; simp
                  subst h1
                  clear htk h2
                  go_wp2_with fail
                  refine (vSaleLots_same _ _ _ _ _ now _ rfl HO.out (HRv7.out.below HBW.out) (by omega)).mono ?_
                  rintro e wz ⟨rfl, bz⟩
                  go_wp2
                  go_ret
                  exact ⟨rfl, Bw28.out.trans ((HBW.out.trans (bz.mono hsz)).mono Bw28.out.size)⟩
          · have hk5d : (q1 != 5) = true := by simpa using hk5
            have htd : (t2 != t1) = false := by simpa using F5.out hk5
            clear hk5
            have y0 := KX.out.cell 0 _ rfl
            have y1 := KX.out.cell 1 _ rfl
            have y2 := KX.out.cell 2 _ rfl
            have y3 := KX.out.cell 3 _ rfl
            go_wp2_with fail
            clear y0 y1 y2 y3
            refine (D2.out _ (HY.out.below Bw24.out)).mono ?_
            rintro e w29 ⟨v5, ys, v6, ss, rfl, hl, hl4, b⟩
            have Bw29 := Lib.hid (Bw24.out.trans (b.mono Bw24.out.size))
            clear KX
            obtain ⟨A5, c5, rfl, r5, h5, h5m⟩ := hl.form
            obtain ⟨A6, c6, rfl, r6, h6, h6m⟩ := hl4.form
            have hy := hl.len
            have hs60 := hl4.len
            have HR5 := Lib.hid r5
            have HR6 := Lib.hid r6
            clear r5 r6 hl hl4 b
            obtain ⟨told, h_told⟩ : ∃ told, told = runB ys ss := ⟨_, rfl⟩
            have HT := Lib.hid h_told
            clear h_told
            obtain ⟨E, h_E⟩ : ∃ E, E = runV ys ss := ⟨_, rfl⟩
            have HE := Lib.hid h_E
            clear h_E
            obtain ⟨m, h_m⟩ : ∃ m, m = runK ys ss := ⟨_, rfl⟩
            have HM := Lib.hid h_m
            clear h_m
            have hE := runV_len ys ss
            rw [← HE.out] at hE
            have hmm : (m != m) = false := by simp
            have htt : (told != told) = false := by cases told <;> rfl
            go_wp2_with fail
            refine (implRunAuction_any A5 ys.length c5 ys A6 ss.length c6 ss _ rfl HR5.out (by omega) rfl HR6.out (by omega)).mono ?_
            rintro e w30 ⟨v7, rfl, o, b⟩
            rw [← HT.out, ← HM.out]
            rw [← HE.out] at o
            obtain ⟨Av7, cv7, rfl⟩ := own_form o
            have Bw30 := Lib.hid (Bw29.out.trans (b.mono Bw29.out.size))
            have HR5' := Lib.hid (HR5.out.below b)
            clear HR5
            have HR5 := HR5'
            clear HR5'
            have HR6' := Lib.hid (HR6.out.below b)
            clear HR6
            have HR6 := HR6'
            clear HR6'
            have HRv7 := Lib.hid (Rd.of_own o)
            clear o b
            go_wp2_with fail
            refine (specRunAuction_any A5 ys.length c5 ys A6 ss.length c6 ss _ rfl HR5.out (by omega) rfl HR6.out (by omega)).mono ?_
            rintro e w31 ⟨v8, rfl, o, b⟩
            rw [← HT.out, ← HM.out]
            rw [← HE.out] at o
            obtain ⟨Av8, cv8, rfl⟩ := own_form o
            have Bw31 := Lib.hid (Bw30.out.trans (b.mono Bw30.out.size))
            have HR5' := Lib.hid (HR5.out.below b)
            clear HR5
            have HR5 := HR5'
            clear HR5'
            have HR6' := Lib.hid (HR6.out.below b)
            clear HR6
            have HR6 := HR6'
            clear HR6'
            have HRv7' := Lib.hid (HRv7.out.below b)
            clear HRv7
            have HRv7 := HRv7'
            clear HRv7'
            have HRv8 := Lib.hid (Rd.of_own o)
            clear o b
            go_wp2_with fail
            refine (vSaleLots_same _ _ _ _ _ E _ rfl HRv7.out HRv8.out (by omega)).mono ?_
            rintro e w32 ⟨rfl, b⟩
            have Bw32 := Lib.hid (Bw31.out.trans (b.mono Bw31.out.size))
            have HR5' := Lib.hid (HR5.out.below b)
            clear HR5
            have HR5 := HR5'
            clear HR5'
            have HR6' := Lib.hid (HR6.out.below b)
            clear HR6
            have HR6 := HR6'
            clear HR6'
            have HRv7' := Lib.hid (HRv7.out.below b)
            clear HRv7
            have HRv7 := HRv7'
            clear HRv7'
            clear b
            cases told with
            | false =>
              go_wp2
              go_ret
              exact ⟨rfl, Bw32.out⟩
            | true =>
              have hau : auc ys = true := by have := HT.out.symm; simp only [runB, Bool.and_eq_true] at this; exact this.1
              have HAU := Lib.hid hau
              clear hau
              obtain ⟨e1, e2⟩ := run_yes HT.out.symm
              rw [← HE.out] at e1
              rw [← HM.out] at e2
              have HE1 := Lib.hid e1
              have HE2 := Lib.hid e2
              clear e1 e2
              go_wp2_with fail
              go_loopw [24, 25, 26, 27, 28] (fun vn md i _ _ wr => ∃ (j : Nat) (An : Option Addr) (cn : Nat), i = .int .i64 j ∧ j ≤ ss.length ∧ md = .int .i64 (runN ys (ss.take j) : Nat) ∧ vn = .slice An (runL ys (ss.take j)).length cn ∧ Rd wr An (cells5 (runL ys (ss.take j))) ∧ Below w32.heap.size w32 wr) (fun _ _ i _ _ _ => ss.length - (intOf i).toNat)
              case atStart => exact ⟨0, A5, c5, rfl, by omega, rfl, rfl, HR5.out, Below.refl _ _⟩
              case round =>
                obtain ⟨j, An, cn, rfl, hj, rfl, rfl, hO, hb⟩ := hrel
                have hmd := runN_take ys ss j
                obtain ⟨now, hnow⟩ : ∃ now, now = runL ys (ss.take j) := ⟨_, rfl⟩
                obtain ⟨md, hmdE⟩ : ∃ md, md = runN ys (ss.take j) := ⟨_, rfl⟩
                rw [← hnow] at hO ⊢
                rw [← hmdE] at hmd ⊢
                have HNOW := Lib.hid hnow
                have HMD := Lib.hid hmdE
                have HAN : Hid (auc now = true) := Lib.hid (by rw [hnow]; exact runL_auc HAU.out)
                have hn8 := auc_len HAN.out
                have HO := Lib.hid hO
                have HBW := Lib.hid hb
                have hsz := hb.size
                clear hO hb hnow hmdE
                by_cases hlt_ : j < ss.length
                · have hltd : (j : Int) < (ss.length : Int) := by omega
                  have hj0 : (0 : Int) ≤ j := by omega
                  obtain ⟨s, hs⟩ : ∃ s, ss[j]? = some s := ⟨_, List.getElem?_eq_getElem hlt_⟩
                  obtain ⟨g, o, eA, hg, c0, c1_, c2, c3_⟩ := (HR6.out.below HBW.out).at4 hs
                  subst eA
                  obtain ⟨en, em⟩ := run_next (xs := ys) hs
                  rw [← HNOW.out] at en em
                  rw [← HMD.out] at em
                  have HEN := Lib.hid en
                  have HEM := Lib.hid em
                  clear en em hs
                  have hmd40 : IntKind.i64.wrap ((md : Int) + 1) = (md : Int) + 1 := IntWalk.i64_in _ (by omega)
                  go_wp2_with fail
                  refine (implStepAuction_any An now.length cn now s.a s.b s.c s.d _ rfl HO.out (by omega)).mono ?_
                  rintro e wb ⟨v9, rfl, o9, b9⟩
                  clear c0 c1_ c2 c3_
                  have hrs : stpB now s.a s.b s.c s.d = runO now s := by simp [stpB, runO, HAN.out]
                  rw [hrs]
                  have HO9 : Hid (runO now s = true → wb.ownsRow wr.heap.size 36 5 v9 (runS now s).length (cells5 (runS now s))) := Lib.hid (fun h => by rw [← hrs] at h; have := (stp_auc h).2.2.2.2; rw [hrs] at h; rw [(runO_yes h).2.2, ← this]; exact o9)
                  obtain ⟨A9, c9, e9⟩ := own_form o9
                  subst e9
                  have HOb := Lib.hid (HO.out.below b9)
                  have HBb := Lib.hid (HBW.out.trans (b9.mono hsz))
                  clear o9 b9 hrs
                  cases hr : runO now s with
                  | false =>
                    have HR := Lib.hid hr
                    clear hr HO9
                    go_wp2
                    go_roundw
                    case rel => exact ⟨j + 1, An, cn, by go_num, by omega, by rw [HEM.out, HR.out]; go_num, by rw [HEN.out, runO_no HR.out], by rw [HEN.out, runO_no HR.out]; exact HOb.out, HBb.out⟩
                    case measure => simp [intOf]; omega
                  | true =>
                    have HR := Lib.hid hr
                    have HOc := Lib.hid (HO9.out hr)
                    clear hr HO9
                    have hform := own_form HOc.out
                    obtain ⟨A10, c10, e10⟩ := hform
                    rw [e10] at HOc ⊢
                    clear e10
                    go_wp2
                    go_roundw
                    case rel => exact ⟨j + 1, A10, c10, by go_num, by omega, by rw [HEM.out, HR.out]; go_num, by rw [HEN.out], by rw [HEN.out]; exact Rd.of_own HOc.out, HBb.out⟩
                    case measure => simp [intOf]; omega
                · have hge : (ss.length : Int) ≤ j := by omega
                  have htk : ss.take j = ss := List.take_of_length_le (by omega)
                  have h1 := HNOW.out; rw [htk, ← HE1.out] at h1
                  have h2 := HMD.out; rw [htk] at h2
                  have hcn : ((md : Int) != m) = false := by rw [HE2.out, h2]; simp
                  subst h1
                  clear htk h2
                  go_wp2_with fail
                  refine (vSaleLots_same _ _ _ _ _ now _ rfl HO.out (HRv7.out.below HBW.out) (by omega)).mono ?_
                  rintro e wz ⟨rfl, bz⟩
                  go_wp2
                  go_ret
                  exact ⟨rfl, Bw32.out.trans ((HBW.out.trans (bz.mono hsz)).mono Bw32.out.size)⟩

theorem own : ownKnob Try.prog.godebug = none := by kernel_rfl
theorem laidOut : laidOutB Try.prog = true := by kernel_rfl
set_option maxRecDepth 100000 in
theorem lifted (os : Os) (started : os.Started) (H : Type) (enc : TypeId × Value → H) :
    ReturnsInHanded {} Try.checked os 3 .any (Rows.fnAuctionsSpec.pre6 enc Try.prog Try.f3 Rows.fnAuctionsRow.domain false) (Rows.fnAuctionsSpec.post enc Try.prog Try.f3 false true false false) := by
  refine returnsInHanded_of_change (C := Try.checked) own started (by kernel_rfl) Try.func3
    (ChangeSpec.witness6 (enc := enc) (C := Try.checked) false ⟨#[], #[.slice none 0 0], []⟩ 8 (by kernel_rfl) (by kernel_rfl) (by kernel_rfl) (by kernel_rfl)) ?_
  intro W base args ds gs before hval0 hW hcnd _
  have hval : ∀ (j : Nat) t v, Try.f3.params[j]? = some t → args[j]? = some v → Value.okWide Try.prog W .any base t v := hval0
  have hW' := hW
  obtain ⟨p, q, hA0, hV, rfl, hfz, hnd⟩ := hW
  have hA : DataW.TrodAll enc Try.prog W 0 (fun _ => true) true Try.f3.params.toList args.toList ds p := hA0
  rw [Try.params3] at hA hval
  obtain ⟨v0, vs0, d0, ds0, p0, q0, hargs, rfl, rfl, h0, r0⟩ := trodAll_cons hA
  obtain ⟨rfl, rfl, rfl⟩ := trodAll_nil r0
  obtain rfl : args = #[v0] := by cases args; simp_all
  obtain ⟨rfl, rfl⟩ := trodVars_none hV
  obtain ⟨a0, len0, cap0, rfl⟩ := okWide_slice Try.underlying22 (hval 0 22 v0 rfl rfl)
  have k0 := h0
  have lt0 : ∀ x ∈ p0, x.block < W.heap.size := by obtain ⟨m, hm⟩ := k0; exact DataW.trod_lt m _ _ _ hm
  obtain ⟨zs, hl0, hr0, hm0, hb0⟩ := openU Try.underlying22 Try.underlying5 (by kernel_rfl) h0
  clear hA0 hval0
  refine (walk a0 len0 cap0 zs W hl0 hr0 hm0 hb0).mono fun e W' ⟨he, bel⟩ => ?_
  subst he
  exact ⟨_, rfl, _, _, _, [], _, [], hW', trodAll_mk1 (shut_bool Try.underlying4 _), (trodAll_cons_mk (Below.trod laidOut (by kernel_rfl) (of_decide_eq_true (by kernel_rfl)) k0 bel lt0) trodAll_mk0), rfl, bel.frame _, fun h => by cases h⟩

theorem over : Rows.fnAuctionsRow.holds Try.pinned (OpenSpec.ofChange Rows.fnAuctionsSpec) :=
  OpenClaim.holds_of_wide 3 Try.f3 rfl rfl rfl rfl rfl rfl rfl ⟨rfl, rfl, rfl, rfl, rfl⟩ rfl rfl rfl rfl rfl (by kernel_rfl) Try.func3 (by kernel_rfl)
    (of_decide_eq_true (by kernel_rfl)) (by unfold Func.isWrapper; first | (rw [if_pos (by decide +kernel)]; kernel_rfl) | (rw [if_neg (by decide +kernel)]; exact ⟨rfl, rfl⟩))
    (fun os started H enc _ => lifted os started H enc)

theorem proved : Rows.FnAuctionsSaid := over
#print axioms proved
end Go.Proofs.Ytjnbcippipookaa.lwFnAuctions
