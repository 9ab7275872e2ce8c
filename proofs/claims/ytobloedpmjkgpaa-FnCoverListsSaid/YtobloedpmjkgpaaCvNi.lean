/- CoversVia of the program. -/
import Derived.Test.YtobloedpmjkgpaaCvZi
import Derived.Test.YtobloedpmjkgpaaCvK
import Derived.Test.YtobloedpmjkgpaaCvC
namespace Go.Proofs.Ytobloedpmjkgpaa
set_option linter.unusedVariables false
set_option linter.unusedSimpArgs false
open Go.RowKit

set_option maxHeartbeats 16000000 in
set_option maxRecDepth 20000 in
theorem implCoversVia_any (hrep : RepOK) (B : Option Addr) (n2 c2 : Nat) (ms : List R4) (D : Option Addr) (n3 c3 : Nat) (xs : List R9) (office : Int) (w : World) (hn2 : ms.length = n2) (hB : Rd w B (cells4 ms)) (hn3 : xs.length = n3) (hD : Rd w D (cells9 xs)) (h2 : n2 ≤ 1048576) (h3 : n3 ≤ 1048576) (hsm : ∀ x ∈ ms, sm4 x) :
    Calls Try.prog 14 #[.slice B n2 c2, .slice D n3 c3, .int .i64 office] w (RetOwnB 3 1 (viV ms xs office).length (cells1 (viV ms xs office)) (viB ms xs office) w) := by
  have C1 := Lib.hid (fun w h => isTimetable_any B n2 c2 ms w hn2 h h2 hsm)
  have C2 := Lib.hid (fun w h => areCovers_any D n3 c3 xs w hn3 h h3)
  have C3 := Lib.hid (fun w => isOffice_any office w)
  have CX := Lib.hid (fun w x h hg hx => routeOn_any hrep B n2 c2 ms x w hn2 h hg hx)
  have CC := Lib.hid (fun A c zs bp bo w h0 h1 h2 h3 h4 h5 => viContains_any A c zs B n2 c2 ms office bp bo w h0 h1 hn2 h2 h3 h4 h5)
  have HB := Lib.hid hB
  have HD := Lib.hid hD
  have HN := Lib.hid hn3
  have HN2 := Lib.hid hn2
  have htc : viB ms xs office = (mlL ms && (cvL xs && inR office 0 9)) := rfl
  have HW0 : Hid (Below w.heap.size w ((w.alloc (.cells #[.slice B n2 c2] 25)).alloc (.cells #[.int .i64 office] 3))) := Lib.hid (((Below.refl _ _).alloc (Nat.le_refl _) _).alloc (by simp) _)
  have KP0 : Hid (Blk ((w.alloc (.cells #[.slice B n2 c2] 25)).alloc (.cells #[.int .i64 office] 3)) w.heap.size [.slice B n2 c2]) := Lib.hid ((Blk.new w [.slice B n2 c2] 25).alloc _)
  have KQ0 : Hid (Blk ((w.alloc (.cells #[.slice B n2 c2] 25)).alloc (.cells #[.int .i64 office] 3)) (w.heap.size + 1) [.int .i64 office]) := Lib.hid (by have h := Blk.new (w.alloc (.cells #[.slice B n2 c2] 25)) [.int .i64 office] 3; rw [World.size_alloc_succ] at h; exact h)
  clear hB hD hn2 hn3 hsm hrep
  cases hb1 : mlL ms with
  | false =>
    have e0 : viB ms xs office = false := by rw [htc, hb1]; simp
    rw [hb1] at C1
    have e1 : viV ms xs office = [] := by rw [viV, if_neg (by rw [e0]; simp)]
    rw [e0, e1]
    clear e0 e1 htc
    go_enter Try.func14, Try.ntmps14
    have kp0 := KP0.out.cell 0 _ rfl
    go_wp2_with fail
    clear kp0
    refine (C1.out _ ((HB.out.alloc _).alloc _)).mono ?_
    rintro e w1 ⟨rfl, b1⟩
    have HW1 := Lib.hid (HW0.out.trans (b1.mono HW0.out.size))
    have KP1 := Lib.hid (KP0.out.below b1 KP0.out.lt)
    have KQ1 := Lib.hid (KQ0.out.below b1 KQ0.out.lt)
    clear b1
    go_wp2
    go_ret2
    exact ⟨_, rfl, World.ownsRow_nil _ _ _ _, HW1.out⟩
  | true =>
    rw [hb1] at C1
    have HT1 := Lib.hid hb1
    cases hb2 : cvL xs with
    | false =>
      have e0 : viB ms xs office = false := by rw [htc, hb1, hb2]; simp
      rw [hb2] at C2
      have e1 : viV ms xs office = [] := by rw [viV, if_neg (by rw [e0]; simp)]
      rw [e0, e1]
      clear e0 e1 htc
      go_enter Try.func14, Try.ntmps14
      have kp0 := KP0.out.cell 0 _ rfl
      go_wp2_with fail
      clear kp0
      refine (C1.out _ ((HB.out.alloc _).alloc _)).mono ?_
      rintro e w1 ⟨rfl, b1⟩
      have HW1 := Lib.hid (HW0.out.trans (b1.mono HW0.out.size))
      have KP1 := Lib.hid (KP0.out.below b1 KP0.out.lt)
      have KQ1 := Lib.hid (KQ0.out.below b1 KQ0.out.lt)
      clear b1
      go_wp2_with fail
      refine (C2.out _ (HD.out.below HW1.out)).mono ?_
      rintro e w2 ⟨rfl, b2⟩
      have HW2 := Lib.hid (HW1.out.trans (b2.mono HW1.out.size))
      have KP2 := Lib.hid (KP1.out.below b2 KP1.out.lt)
      have KQ2 := Lib.hid (KQ1.out.below b2 KQ1.out.lt)
      clear b2
      go_wp2
      go_ret2
      exact ⟨_, rfl, World.ownsRow_nil _ _ _ _, HW2.out⟩
    | true =>
      rw [hb2] at C2
      have HT2 := Lib.hid hb2
      cases hb3 : inR office 0 9 with
      | false =>
        have e0 : viB ms xs office = false := by rw [htc, hb1, hb2, hb3]; simp
        rw [hb3] at C3
        have e1 : viV ms xs office = [] := by rw [viV, if_neg (by rw [e0]; simp)]
        rw [e0, e1]
        clear e0 e1 htc
        go_enter Try.func14, Try.ntmps14
        have kp0 := KP0.out.cell 0 _ rfl
        go_wp2_with fail
        clear kp0
        refine (C1.out _ ((HB.out.alloc _).alloc _)).mono ?_
        rintro e w1 ⟨rfl, b1⟩
        have HW1 := Lib.hid (HW0.out.trans (b1.mono HW0.out.size))
        have KP1 := Lib.hid (KP0.out.below b1 KP0.out.lt)
        have KQ1 := Lib.hid (KQ0.out.below b1 KQ0.out.lt)
        clear b1
        go_wp2_with fail
        refine (C2.out _ (HD.out.below HW1.out)).mono ?_
        rintro e w2 ⟨rfl, b2⟩
        have HW2 := Lib.hid (HW1.out.trans (b2.mono HW1.out.size))
        have KP2 := Lib.hid (KP1.out.below b2 KP1.out.lt)
        have KQ2 := Lib.hid (KQ1.out.below b2 KQ1.out.lt)
        clear b2
        have kq0 := KQ2.out.cell 0 _ rfl
        have kql := KQ2.out.lt
        go_wp2_with fail
        clear kq0 kql
        refine (C3.out _).mono ?_
        rintro e w3 ⟨rfl, rfl⟩
        have HW3 := HW2
        have KP3 := KP2
        have KQ3 := KQ2
        go_wp2
        go_ret2
        exact ⟨_, rfl, World.ownsRow_nil _ _ _ _, HW3.out⟩
      | true =>
        rw [hb3] at C3
        have HT3 := Lib.hid hb3
        have e0 : viB ms xs office = true := by rw [htc, hb1, hb2, hb3]; rfl
        rw [e0, viV, if_pos e0]
        have h10 := cvL_len hb2
        have h20 := mlL_len hb1
        clear e0 htc hb1 hb2 hb3
        go_enter Try.func14, Try.ntmps14
        have kp0 := KP0.out.cell 0 _ rfl
        go_wp2_with fail
        clear kp0
        refine (C1.out _ ((HB.out.alloc _).alloc _)).mono ?_
        rintro e w1 ⟨rfl, b1⟩
        have HW1 := Lib.hid (HW0.out.trans (b1.mono HW0.out.size))
        have KP1 := Lib.hid (KP0.out.below b1 KP0.out.lt)
        have KQ1 := Lib.hid (KQ0.out.below b1 KQ0.out.lt)
        clear b1
        go_wp2_with fail
        refine (C2.out _ (HD.out.below HW1.out)).mono ?_
        rintro e w2 ⟨rfl, b2⟩
        have HW2 := Lib.hid (HW1.out.trans (b2.mono HW1.out.size))
        have KP2 := Lib.hid (KP1.out.below b2 KP1.out.lt)
        have KQ2 := Lib.hid (KQ1.out.below b2 KQ1.out.lt)
        clear b2
        have kq0 := KQ2.out.cell 0 _ rfl
        have kql := KQ2.out.lt
        go_wp2_with fail
        clear kq0 kql
        refine (C3.out _).mono ?_
        rintro e w3 ⟨rfl, rfl⟩
        have HW3 := HW2
        have KP3 := KP2
        have KQ3 := KQ2
        go_wp2_with fail
        go_loopw [28, 8, 10, 11, 12] (fun i v _ _ _ wr => ∃ k : Nat, i = .int .i64 k ∧ k ≤ n3 ∧ wr.ownsRow (w.heap.size + 2) 3 1 v (viP ms xs office k).length (cells1 (viP ms xs office k)) ∧ Below w.heap.size w wr ∧ Blk wr w.heap.size [.slice B n2 c2] ∧ Blk wr (w.heap.size + 1) [.int .i64 office]) (fun i _ _ _ _ _ => n3 - (intOf i).toNat)
        case atStart => exact ⟨0, rfl, by omega, World.ownsRow_nil _ _ _ _, HW3.out, KP3.out, KQ3.out⟩
        case round =>
          obtain ⟨wO, hwO⟩ : ∃ x, x = wr := ⟨wr, rfl⟩
          subst hwO
          obtain ⟨k, rfl, hk, ho, hb, kp, kq⟩ := hrel
          obtain ⟨vA, vc, rfl⟩ := own_form ho
          have HO := Lib.hid ho
          have HBK := Lib.hid hb
          have KP := Lib.hid kp
          have KQ := Lib.hid kq
          have hsw := hb.size
          clear ho hb kp kq
          by_cases hlt : k < n3
          · have hlt' : (k : Int) < (n3 : Int) := by omega
            have hk0 : (0 : Int) ≤ (k : Int) := by omega
            obtain ⟨x, ex⟩ : ∃ x, xs[k]? = some x := ⟨_, List.getElem?_eq_getElem (by have := HN.out; omega)⟩
            have hxv := cvL_at HT2.out ex
            have HXV := Lib.hid hxv
            have hst := viP_step (ms := ms) (office := office) ex
            obtain ⟨P, hP⟩ : ∃ P, P = viP ms xs office k := ⟨_, rfl⟩
            have hPn : P.length ≤ 10 := by rw [hP]; have := viP_len ms xs office k; have := HN.out; omega
            rw [← hP] at HO hst ⊢
            have HST := Lib.hid hst
            obtain ⟨g, o, eA, hgl, q0, q1, q2, q3, q4, q5, q6, q7, q8⟩ := (HD.out.below HBK.out).at9 ex
            subst eA
            have hRi : ∀ z ∈ roV ms x, 0 ≤ z ∧ z < ms.length := fun z hz => by
              by_cases hr : roB ms x = true
              · exact (ro_br HT1.out hxv hr).idx z hz
              · rw [roV, if_neg hr] at hz; cases hz
            have hRl : (roV ms x).length ≤ 10000 := by
              have hb := cvB_bd hxv
              by_cases hr : roB ms x = true
              · have := (ro_br HT1.out hxv hr).len HT1.out (by omega); omega
              · rw [roV, if_neg hr]; simp
            obtain ⟨R, hR⟩ : ∃ R, R = roV ms x := ⟨_, rfl⟩
            have CY := Lib.hid (fun w h => CX.out w x h HT1.out HXV.out)
            rw [← hR] at CY hRi hRl
            have hvq : viQ ms office x = R.any (toAt ms office) := by unfold viQ; rw [hR]
            have HVQ := Lib.hid hvq
            have HRI := Lib.hid hRi
            clear ex hst hP hR hRi hvq hxv
            have kp0 := KP.out.cell 0 _ rfl
            have kpl := KP.out.lt
            have kql := KQ.out.lt
            go_wp2_with fail
            refine (CY.out _ ((HB.out.below HBK.out).alloc _)).mono ?_
            rintro e w5 ⟨v5, rfl, o5, b5⟩
            obtain ⟨A5, cc5, rfl⟩ := own_form o5
            have HR5 := Lib.hid (Rd.of_own o5)
            have hal : Below wO.heap.size wO w5 := ((Below.refl _ _).alloc (Nat.le_refl _) _).trans (b5.mono (by simp))
            have KP5 := Lib.hid (KP.out.below hal KP.out.lt)
            have KQ5 := Lib.hid (KQ.out.below hal KQ.out.lt)
            have HO5 := Lib.hid (own_below HO.out hal)
            have HB5 := Lib.hid (HBK.out.trans (hal.mono hsw))
            have e0 := (b5.cell (p := ⟨wO.heap.size, 0, none⟩) (by simp)).trans (World.cell?_alloc_at _ _ _ _ rfl)
            have hxl : wO.heap.size < w5.heap.size := by have := b5.size; simp at this; omega
            clear b5 hal o5 kp0 kpl kql q0 q1 q2 q3 q4 q5 q6 q7 q8
            go_wp2_with fail
            refine (CC.out A5 cc5 R w.heap.size (w.heap.size + 1) _ (by omega) HR5.out (HB.out.below HB5.out) HRI.out (KP5.out.cell 0 _ rfl) (KQ5.out.cell 0 _ rfl)).mono ?_
            rintro e w6 ⟨rfl, b6⟩
            have KP6 := Lib.hid (KP5.out.below b6 KP5.out.lt)
            have KQ6 := Lib.hid (KQ5.out.below b6 KQ5.out.lt)
            have HO5' := Lib.hid (own_below HO5.out b6)
            have HB5' := Lib.hid (HB5.out.trans (b6.mono HB5.out.size))
            have e0' := (b6.cell (p := ⟨wO.heap.size, 0, none⟩) hxl).trans e0
            have hxl6 : wO.heap.size < w6.heap.size := Nat.lt_of_lt_of_le hxl b6.size
            clear b6 HO5 HB5 e0 hxl KP5 KQ5
            have HO5 := HO5'
            have HB5 := HB5'
            clear HO5' HB5'
            have HO6 := Lib.hid (fun o1 => HO5.out.alloc o1)
            have hs5 := HB5.out.size
            obtain ⟨sd, hsd⟩ : ∃ sd, sd = R.any (toAt ms office) := ⟨_, rfl⟩
            rw [← hsd]
            rw [HVQ.out, ← hsd] at HST
            clear hsd
            cases sd with
            | true =>
              rw [if_pos rfl] at HST
              go_wp2_with (at_builtin; go_must (refine wpList_app _ rfl (.tmp 41) (.tmp 44) 29 rfl (w.heap.size + 2) 3 _ 1 8 Try.underlying29 infoI rfl (by omega) _ _ _ rfl (HO6.out _) _ 1 1 [.int .i64 x.a] rfl rfl (rd_new #[.int .i64 x.a] 3 (by simp)) (oneCell_ints [x.a]) (by unfold maxLen; omega) (by omega) (by have := KQ6.out.lt; simp; omega) ?_); intro v' w' o' g' d'; have HO7 := Lib.hid o'; have HG7 := Lib.hid g'; clear o' g' d')
              have HB7 : Hid (Below w.heap.size w w') := Lib.hid ((HB5.out.alloc hs5 _).grown HG7.out (by simp; omega) (fun b hb => by have := (HO5.out.lt b hb).1; omega))
              have hneP : some w.heap.size ≠ (Value.slice vA P.length vc).ownBlock := own_ne3 HO5.out (by omega)
              have hneQ : some (w.heap.size + 1) ≠ (Value.slice vA P.length vc).ownBlock := own_ne3 HO5.out (by omega)
              have KP7 := Lib.hid ((KP6.out.alloc _).grown HG7.out hneP)
              have KQ7 := Lib.hid ((KQ6.out.alloc _).grown HG7.out hneQ)
              go_roundw
              case rel => exact ⟨k + 1, by go_num, by omega, by
                have h := HO7.out
                rw [show cells1 P ++ [Value.int .i64 x.a] = cells1 (P ++ [x.a]) by simp [cells1]] at h
                rw [HST.out, List.length_append]; exact h, HB7.out, KP7.out, KQ7.out⟩
              case measure => simp [intOf]; omega
            | false =>
              rw [if_neg (by simp), List.append_nil] at HST
              go_wp2
              go_roundw
              case rel => exact ⟨k + 1, by go_num, by omega, by rw [HST.out]; exact HO5.out, HB5.out, KP6.out, KQ6.out⟩
              case measure => simp [intOf]; omega
          · obtain rfl : k = n3 := by omega
            go_wp2
            go_ret2
            exact ⟨_, rfl, by rw [HN.out]; exact own_mono HO.out (by omega), HBK.out⟩
end Go.Proofs.Ytobloedpmjkgpaa
