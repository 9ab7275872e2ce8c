/- CoversVia of the reference. -/
import Derived.Test.YtobloedpmjkgpaaCvZ
import Derived.Test.YtobloedpmjkgpaaCvB
import Derived.Test.YtobloedpmjkgpaaCur
namespace Go.Proofs.Ytobloedpmjkgpaa
set_option linter.unusedVariables false
set_option linter.unusedSimpArgs false
open Go.RowKit

set_option maxHeartbeats 16000000 in
set_option maxRecDepth 20000 in
theorem specCoversVia_any (B : Option Addr) (n2 c2 : Nat) (ms : List R4) (D : Option Addr) (n3 c3 : Nat) (xs : List R9) (office : Int) (w : World) (hn2 : ms.length = n2) (hB : Rd w B (cells4 ms)) (hn3 : xs.length = n3) (hD : Rd w D (cells9 xs)) (h2 : n2 ≤ 1048576) (h3 : n3 ≤ 1048576) (hsm : ∀ x ∈ ms, sm4 x) :
    Calls Try.prog 15 #[.slice B n2 c2, .slice D n3 c3, .int .i64 office] w (RetOwnB 3 1 (viV ms xs office).length (cells1 (viV ms xs office)) (viB ms xs office) w) := by
  have C1 := Lib.hid (fun w h => l9Good_any B n2 c2 ms w hn2 h h2 hsm)
  have C2 := Lib.hid (fun w h => l10Good_any D n3 c3 xs w hn3 h h3)
  have C3 := Lib.hid (fun w => l9Office_any office w)
  have CX := Lib.hid (fun w x h hg hx => l10Route_any B n2 c2 ms x w hn2 h hg hx)
  have HB := Lib.hid hB
  have HD := Lib.hid hD
  have HN := Lib.hid hn3
  have HN2 := Lib.hid hn2
  have htc : viB ms xs office = (mlL ms && (cvL xs && inR office 0 9)) := rfl
  have HW0 : Hid (Below w.heap.size w (w.alloc (.cells #[] 3))) := Lib.hid ((Below.refl _ _).alloc (Nat.le_refl _) _)
  have HOE0 : Hid ((w.alloc (.cells #[] 3)).ownsRow w.heap.size 3 1 (.slice (some ⟨w.heap.size, 0, none⟩) 0 0) 0 []) := Lib.hid (own_empty w w.heap.size 3 1 (Nat.le_refl _))
  clear hB hD hn2 hn3 hsm
  cases hb1 : mlL ms with
  | false =>
    have e0 : viB ms xs office = false := by rw [htc, hb1]; simp
    rw [hb1] at C1
    have e1 : viV ms xs office = [] := by rw [viV, if_neg (by rw [e0]; simp)]
    rw [e0, e1]
    clear e0 e1 htc
    go_enter Try.func15, Try.ntmps15
    go_wp2_with fail
    refine (C1.out _ (HB.out.alloc _)).mono ?_
    rintro e w1 ⟨rfl, b1⟩
    have HW1 := Lib.hid (HW0.out.trans (b1.mono HW0.out.size))
    have HOE1 := Lib.hid (own_below HOE0.out b1)
    clear b1
    go_wp2
    go_ret2
    exact ⟨_, rfl, HOE1.out, HW1.out⟩
  | true =>
    rw [hb1] at C1
    have HT1 := Lib.hid hb1
    cases hb2 : cvL xs with
    | false =>
      have e0 : viB ms xs office = false := by rw [htc, hb1, hb2]; simp
      rw [hb2] at C2
      have e1 : viV ms xs office = [] := by rw [viV, if_neg (by rw [e0]; simp)]
      rw [e0, e1]
      clear e0 e1 htc
      go_enter Try.func15, Try.ntmps15
      go_wp2_with fail
      refine (C1.out _ (HB.out.alloc _)).mono ?_
      rintro e w1 ⟨rfl, b1⟩
      have HW1 := Lib.hid (HW0.out.trans (b1.mono HW0.out.size))
      have HOE1 := Lib.hid (own_below HOE0.out b1)
      clear b1
      go_wp2_with fail
      refine (C2.out _ (HD.out.below HW1.out)).mono ?_
      rintro e w2 ⟨rfl, b2⟩
      have HW2 := Lib.hid (HW1.out.trans (b2.mono HW1.out.size))
      have HOE2 := Lib.hid (own_below HOE1.out b2)
      clear b2
      go_wp2
      go_ret2
      exact ⟨_, rfl, HOE2.out, HW2.out⟩
    | true =>
      rw [hb2] at C2
      have HT2 := Lib.hid hb2
      cases hb3 : inR office 0 9 with
      | false =>
        have e0 : viB ms xs office = false := by rw [htc, hb1, hb2, hb3]; simp
        rw [hb3] at C3
        have e1 : viV ms xs office = [] := by rw [viV, if_neg (by rw [e0]; simp)]
        rw [e0, e1]
        clear e0 e1 htc
        go_enter Try.func15, Try.ntmps15
        go_wp2_with fail
        refine (C1.out _ (HB.out.alloc _)).mono ?_
        rintro e w1 ⟨rfl, b1⟩
        have HW1 := Lib.hid (HW0.out.trans (b1.mono HW0.out.size))
        have HOE1 := Lib.hid (own_below HOE0.out b1)
        clear b1
        go_wp2_with fail
        refine (C2.out _ (HD.out.below HW1.out)).mono ?_
        rintro e w2 ⟨rfl, b2⟩
        have HW2 := Lib.hid (HW1.out.trans (b2.mono HW1.out.size))
        have HOE2 := Lib.hid (own_below HOE1.out b2)
        clear b2
        go_wp2_with fail
        refine (C3.out _).mono ?_
        rintro e w3 ⟨rfl, rfl⟩
        have HW3 := HW2
        have HOE3 := HOE2
        go_wp2
        go_ret2
        exact ⟨_, rfl, HOE3.out, HW3.out⟩
      | true =>
        rw [hb3] at C3
        have HT3 := Lib.hid hb3
        have e0 : viB ms xs office = true := by rw [htc, hb1, hb2, hb3]; rfl
        rw [e0, viV, if_pos e0]
        have h10 := cvL_len hb2
        have h20 := mlL_len hb1
        clear e0 htc hb1 hb2 hb3
        go_enter Try.func15, Try.ntmps15
        go_wp2_with fail
        refine (C1.out _ (HB.out.alloc _)).mono ?_
        rintro e w1 ⟨rfl, b1⟩
        have HW1 := Lib.hid (HW0.out.trans (b1.mono HW0.out.size))
        have HOE1 := Lib.hid (own_below HOE0.out b1)
        clear b1
        go_wp2_with fail
        refine (C2.out _ (HD.out.below HW1.out)).mono ?_
        rintro e w2 ⟨rfl, b2⟩
        have HW2 := Lib.hid (HW1.out.trans (b2.mono HW1.out.size))
        have HOE2 := Lib.hid (own_below HOE1.out b2)
        clear b2
        go_wp2_with fail
        refine (C3.out _).mono ?_
        rintro e w3 ⟨rfl, rfl⟩
        have HW3 := HW2
        have HOE3 := HOE2
        go_wp2_with fail
        go_loopw [9, 8, 10, 11, 12, 13] (fun i v _ _ _ _ wr => ∃ k : Nat, i = .int .i64 k ∧ k ≤ n3 ∧ wr.ownsRow w.heap.size 3 1 v (viP ms xs office k).length (cells1 (viP ms xs office k)) ∧ Below w.heap.size w wr) (fun i _ _ _ _ _ _ => n3 - (intOf i).toNat)
        case atStart => exact ⟨0, rfl, by omega, HOE3.out, HW3.out⟩
        case round =>
          obtain ⟨wO, hwO⟩ : ∃ x, x = wr := ⟨wr, rfl⟩
          subst hwO
          obtain ⟨k, rfl, hk, ho, hb⟩ := hrel
          obtain ⟨vA, vc, rfl⟩ := own_form ho
          have HO := Lib.hid ho
          have HBK := Lib.hid hb
          have hsw := hb.size
          clear ho hb
          by_cases hlt : k < n3
          · have hlt' : (k : Int) < (n3 : Int) := by omega
            have hk0 : (0 : Int) ≤ (k : Int) := by omega
            obtain ⟨x, ex⟩ : ∃ x, xs[k]? = some x := ⟨_, List.getElem?_eq_getElem (by have := HN.out; omega)⟩
            have hxv := cvL_at HT2.out ex
            have HXV := Lib.hid hxv
            have hst := viP_step (ms := ms) (office := office) ex
            obtain ⟨P, hP⟩ : ∃ P, P = viP ms xs office k := ⟨_, rfl⟩
            have hPn : P.length ≤ 10 := by rw [hP]; have := viP_len ms xs office k; have := HN.out; omega
            rw [← hP] at HO hst ⊢
            have HST := Lib.hid hst
            obtain ⟨g, o, eA, hgl, q0, q1, q2, q3, q4, q5, q6, q7, q8⟩ := (HD.out.below HBK.out).at9 ex
            subst eA
            have hRi : ∀ z ∈ roV ms x, 0 ≤ z ∧ z < ms.length := fun z hz => by
              by_cases hr : roB ms x = true
              · exact (ro_br HT1.out hxv hr).idx z hz
              · rw [roV, if_neg hr] at hz; cases hz
            have hRl : (roV ms x).length ≤ 10000 := by
              have hb := cvB_bd hxv
              by_cases hr : roB ms x = true
              · have := (ro_br HT1.out hxv hr).len HT1.out (by omega); omega
              · rw [roV, if_neg hr]; simp
            obtain ⟨R, hR⟩ : ∃ R, R = roV ms x := ⟨_, rfl⟩
            have CY := Lib.hid (fun w h => CX.out w x h HT1.out HXV.out)
            rw [← hR] at CY hRi hRl
            have hvq : viQ ms office x = R.any (toAt ms office) := by unfold viQ; rw [hR]
            have HVQ := Lib.hid hvq
            have HRI := Lib.hid hRi
            clear ex hst hP hR hRi hvq hxv
            go_wp2_with fail
            refine (CY.out _ (HB.out.below HBK.out)).mono ?_
            rintro e w5 ⟨v5, rfl, o5, b5⟩
            obtain ⟨A5, cc5, rfl⟩ := own_form o5
            have HR5 := Lib.hid (Rd.of_own o5)
            have q0' := (b5.cell (p := ⟨g, o + k * 9, none⟩) hgl).trans q0
            have hgl5 : g < w5.heap.size := Nat.lt_of_lt_of_le hgl b5.size
            have HO5 := Lib.hid (own_below HO.out b5)
            have HO6 := Lib.hid (fun o1 => HO5.out.alloc o1)
            have HB5 := Lib.hid (HBK.out.trans (b5.mono hsw))
            have HM5 := Lib.hid (HB.out.below HB5.out)
            have hs5 := HB5.out.size
            clear b5 o5 q0 q1 q2 q3 q4 q5 q6 q7 q8
            go_wp2_with fail
            go_loopw [13, 12] (fun i v wr => ∃ q : Nat, i = .int .i64 q ∧ q ≤ R.length ∧ v = .bool ((R.take q).any (toAt ms office)) ∧ w5 = wr) (fun i _ _ => R.length - (intOf i).toNat)
            case atStart => exact ⟨0, rfl, by omega, by simp, rfl⟩
            case round =>
              obtain ⟨q, rfl, hq, rfl, rfl⟩ := hrel
              obtain ⟨sd, hsd⟩ : ∃ sd, sd = (R.take q).any (toAt ms office) := ⟨_, rfl⟩
              rw [← hsd]
              have HSD := Lib.hid hsd
              clear hsd
              by_cases hql : q < R.length
              · have hql' : (q : Int) < (R.length : Int) := by omega
                have hq0 : (0 : Int) ≤ (q : Int) := by omega
                obtain ⟨z, ez⟩ : ∃ z, R[q]? = some z := ⟨_, List.getElem?_eq_getElem hql⟩
                have hzb := HRI.out z (List.mem_of_getElem? ez)
                obtain ⟨nz, rfl⟩ : ∃ nz : Nat, z = (nz : Int) := ⟨z.toNat, by omega⟩
                have hnz : nz < ms.length := by omega
                obtain ⟨y, ey⟩ : ∃ y, ms[nz]? = some y := ⟨_, List.getElem?_eq_getElem hnz⟩
                have hta : toAt ms office (nz : Int) = decide (y.c = office) := by unfold toAt; rw [Int.toNat_natCast, ey]
                have hst2 : (R.take (q + 1)).any (toAt ms office) = (sd || decide (y.c = office)) := by rw [HSD.out, List.take_add_one, ez, List.any_append]; simp [hta]
                have HS2 := Lib.hid hst2
                obtain ⟨g2, o2, eA2, hg2, d0⟩ := HR5.out.at1 ez
                subst eA2
                obtain ⟨g3, o3, eA3, hg3, m0, m1, m2, m3⟩ := HM5.out.at4 ey
                subst eA3
                have hnz0 : (0 : Int) ≤ (nz : Int) := by omega
                have hnz1 : (nz : Int) < (n2 : Int) := by have := HN2.out; omega
                clear ez ey hta hst2 hzb hnz
                cases sd with
                | true =>
                  rw [Bool.true_or] at HS2
                  go_wp2
                  go_roundw
                  case rel => exact ⟨q + 1, by go_num, by omega, by rw [HS2.out], by first | rfl | trivial⟩
                  case measure => simp [intOf]; omega
                | false =>
                  rw [Bool.false_or] at HS2
                  by_cases hyc : y.c = office
                  · have dd : (y.c == office) = true := by simp [hyc]
                    rw [show decide (y.c = office) = true by simp [hyc]] at HS2
                    clear hyc
                    go_wp2
                    go_roundw
                    case rel => exact ⟨q + 1, by go_num, by omega, by rw [HS2.out], by first | rfl | trivial⟩
                    case measure => simp [intOf]; omega
                  · have dd : (y.c == office) = false := by simp [hyc]
                    rw [show decide (y.c = office) = false by simp [hyc]] at HS2
                    clear hyc
                    go_wp2
                    go_roundw
                    case rel => exact ⟨q + 1, by go_num, by omega, by rw [HS2.out], by first | rfl | trivial⟩
                    case measure => simp [intOf]; omega
              · obtain rfl : q = R.length := by omega
                have hv2 : viQ ms office x = sd := by rw [HVQ.out, HSD.out, List.take_length]
                rw [hv2] at HST
                clear hv2
                cases sd with
                | true =>
                  rw [if_pos rfl] at HST
                  go_wp2_with (at_builtin; go_must (refine wpList_app _ rfl (.tmp 64) (.tmp 70) 29 rfl w.heap.size 3 _ 1 8 Try.underlying29 infoI rfl (by omega) _ _ _ rfl (HO6.out _) _ 1 1 [.int .i64 x.a] rfl rfl (rd_new #[.int .i64 x.a] 3 (by simp)) (oneCell_ints [x.a]) (by unfold maxLen; omega) (by omega) (by simp; omega) ?_); intro v' w' o' g' d'; have HO7 := Lib.hid o'; have HG7 := Lib.hid g'; clear o' g' d')
                  have HB7 : Hid (Below w.heap.size w w') := Lib.hid ((HB5.out.alloc hs5 _).grown HG7.out (by simp; omega) (fun b hb => (HO5.out.lt b hb).1))
                  go_roundw
                  case rel => exact ⟨k + 1, by go_num, by omega, by
                    have h := HO7.out
                    rw [show cells1 P ++ [Value.int .i64 x.a] = cells1 (P ++ [x.a]) by simp [cells1]] at h
                    rw [HST.out, List.length_append]; exact h, HB7.out⟩
                  case measure => simp [intOf]; omega
                | false =>
                  rw [if_neg (by simp), List.append_nil] at HST
                  go_wp2
                  go_roundw
                  case rel => exact ⟨k + 1, by go_num, by omega, by rw [HST.out]; exact HO5.out, HB5.out⟩
                  case measure => simp [intOf]; omega
          · obtain rfl : k = n3 := by omega
            go_wp2
            go_ret2
            exact ⟨_, rfl, by rw [HN.out]; exact HO.out, HBK.out⟩
end Go.Proofs.Ytobloedpmjkgpaa
