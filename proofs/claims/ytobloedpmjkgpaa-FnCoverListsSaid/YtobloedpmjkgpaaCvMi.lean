/- TrueCovers of the program. -/
import Derived.Test.YtobloedpmjkgpaaCvYi
import Derived.Test.YtobloedpmjkgpaaCvB
namespace Go.Proofs.Ytobloedpmjkgpaa
set_option linter.unusedVariables false
set_option linter.unusedSimpArgs false
open Go.RowKit

set_option maxHeartbeats 16000000 in
set_option maxRecDepth 20000 in
theorem implTrueCovers_any (hrep : RepOK) (A : Option Addr) (n c : Nat) (rs : List R5) (B : Option Addr) (n2 c2 : Nat) (ms : List R4) (D : Option Addr) (n3 c3 : Nat) (xs : List R9) (w : World) (hn : rs.length = n) (hA : Rd w A (cells5 rs)) (hn2 : ms.length = n2) (hB : Rd w B (cells4 ms)) (hn3 : xs.length = n3) (hD : Rd w D (cells9 xs)) (h1 : n ≤ 1048576) (h2 : n2 ≤ 1048576) (h3 : n3 ≤ 1048576) (hsm : ∀ x ∈ ms, sm4 x) :
    Calls Try.prog 6 #[.slice A n c, .slice B n2 c2, .slice D n3 c3] w (RetOwnB 3 1 (tcV rs ms xs).length (cells1 (tcV rs ms xs)) (tcB rs ms xs) w) := by
  have C1 := Lib.hid (fun w h => areRates_any A n c rs w hn h h1)
  have C2 := Lib.hid (fun w h => isTimetable_any B n2 c2 ms w hn2 h h2 hsm)
  have C3 := Lib.hid (fun w h => areCovers_any D n3 c3 xs w hn3 h h3)
  have HA := Lib.hid hA
  have HB := Lib.hid hB
  have HD := Lib.hid hD
  have HN := Lib.hid hn3
  have htc : tcB rs ms xs = (rtL rs && (mlL ms && cvL xs)) := rfl
  have CF := Lib.hid (fun w x h h2 hr hg hx => faultOf_any hrep A n c rs B n2 c2 ms x w hn h hn2 h2 hr hg hx)
  have HW0 : Hid (Below w.heap.size w w) := Lib.hid (Below.refl _ _)
  clear hA hB hD hn hn2 hn3 hsm
  cases hb1 : rtL rs with
  | false =>
    have e0 : tcB rs ms xs = false := by rw [htc, hb1]; simp
    rw [hb1] at C1
    have e1 : tcV rs ms xs = [] := by rw [tcV, if_neg (by rw [e0]; simp)]
    rw [e0, e1]
    clear e0 e1 htc
    go_enter Try.func6, Try.ntmps6
    go_wp2_with fail
    refine (C1.out _ (HA.out)).mono ?_
    rintro e w1 ⟨rfl, b1⟩
    have HW1 := Lib.hid (HW0.out.trans (b1.mono HW0.out.size))
    have HA' := Lib.hid ((HA.out).below b1)
    have HB' := Lib.hid ((HB.out).below b1)
    have HD' := Lib.hid ((HD.out).below b1)
    clear b1
    go_wp2
    go_ret2
    exact ⟨_, rfl, World.ownsRow_nil _ _ _ _, HW1.out⟩
  | true =>
    rw [hb1] at C1
    have HT1 := Lib.hid hb1
    cases hb2 : mlL ms with
    | false =>
      have e0 : tcB rs ms xs = false := by rw [htc, hb1, hb2]; simp
      rw [hb2] at C2
      have e1 : tcV rs ms xs = [] := by rw [tcV, if_neg (by rw [e0]; simp)]
      rw [e0, e1]
      clear e0 e1 htc
      go_enter Try.func6, Try.ntmps6
      go_wp2_with fail
      refine (C1.out _ (HA.out)).mono ?_
      rintro e w1 ⟨rfl, b1⟩
      have HW1 := Lib.hid (HW0.out.trans (b1.mono HW0.out.size))
      have HA' := Lib.hid ((HA.out).below b1)
      have HB' := Lib.hid ((HB.out).below b1)
      have HD' := Lib.hid ((HD.out).below b1)
      clear b1
      go_wp2_with fail
      refine (C2.out _ HB'.out).mono ?_
      rintro e w2 ⟨rfl, b2⟩
      have HW2 := Lib.hid (HW1.out.trans (b2.mono HW1.out.size))
      have HA'' := Lib.hid (HA'.out.below b2)
      have HB'' := Lib.hid (HB'.out.below b2)
      have HD'' := Lib.hid (HD'.out.below b2)
      clear b2
      go_wp2
      go_ret2
      exact ⟨_, rfl, World.ownsRow_nil _ _ _ _, HW2.out⟩
    | true =>
      rw [hb2] at C2
      have HT2 := Lib.hid hb2
      cases hb3 : cvL xs with
      | false =>
        have e0 : tcB rs ms xs = false := by rw [htc, hb1, hb2, hb3]; simp
        rw [hb3] at C3
        have e1 : tcV rs ms xs = [] := by rw [tcV, if_neg (by rw [e0]; simp)]
        rw [e0, e1]
        clear e0 e1 htc
        go_enter Try.func6, Try.ntmps6
        go_wp2_with fail
        refine (C1.out _ (HA.out)).mono ?_
        rintro e w1 ⟨rfl, b1⟩
        have HW1 := Lib.hid (HW0.out.trans (b1.mono HW0.out.size))
        have HA' := Lib.hid ((HA.out).below b1)
        have HB' := Lib.hid ((HB.out).below b1)
        have HD' := Lib.hid ((HD.out).below b1)
        clear b1
        go_wp2_with fail
        refine (C2.out _ HB'.out).mono ?_
        rintro e w2 ⟨rfl, b2⟩
        have HW2 := Lib.hid (HW1.out.trans (b2.mono HW1.out.size))
        have HA'' := Lib.hid (HA'.out.below b2)
        have HB'' := Lib.hid (HB'.out.below b2)
        have HD'' := Lib.hid (HD'.out.below b2)
        clear b2
        go_wp2_with fail
        refine (C3.out _ HD''.out).mono ?_
        rintro e w3 ⟨rfl, b3⟩
        have HW3 := Lib.hid (HW2.out.trans (b3.mono HW2.out.size))
        have HA''' := Lib.hid (HA''.out.below b3)
        have HB''' := Lib.hid (HB''.out.below b3)
        have HD''' := Lib.hid (HD''.out.below b3)
        clear b3
        go_wp2
        go_ret2
        exact ⟨_, rfl, World.ownsRow_nil _ _ _ _, HW3.out⟩
      | true =>
        rw [hb3] at C3
        have HT3 := Lib.hid hb3
        have e0 : tcB rs ms xs = true := by rw [htc, hb1, hb2, hb3]; rfl
        rw [e0, tcV, if_pos e0]
        have h10 := cvL_len hb3
        clear e0 htc hb1 hb2 hb3
        go_enter Try.func6, Try.ntmps6
        go_wp2_with fail
        refine (C1.out _ (HA.out)).mono ?_
        rintro e w1 ⟨rfl, b1⟩
        have HW1 := Lib.hid (HW0.out.trans (b1.mono HW0.out.size))
        have HA' := Lib.hid ((HA.out).below b1)
        have HB' := Lib.hid ((HB.out).below b1)
        have HD' := Lib.hid ((HD.out).below b1)
        clear b1
        go_wp2_with fail
        refine (C2.out _ HB'.out).mono ?_
        rintro e w2 ⟨rfl, b2⟩
        have HW2 := Lib.hid (HW1.out.trans (b2.mono HW1.out.size))
        have HA'' := Lib.hid (HA'.out.below b2)
        have HB'' := Lib.hid (HB'.out.below b2)
        have HD'' := Lib.hid (HD'.out.below b2)
        clear b2
        go_wp2_with fail
        refine (C3.out _ HD''.out).mono ?_
        rintro e w3 ⟨rfl, b3⟩
        have HW3 := Lib.hid (HW2.out.trans (b3.mono HW2.out.size))
        have HA''' := Lib.hid (HA''.out.below b3)
        have HB''' := Lib.hid (HB''.out.below b3)
        have HD''' := Lib.hid (HD''.out.below b3)
        clear b3
        go_wp2_with fail
        go_loopw [26, 8, 10] (fun i v _ wr => ∃ k : Nat, i = .int .i64 k ∧ k ≤ n3 ∧ wr.ownsRow w.heap.size 3 1 v (tcP rs ms xs k).length (cells1 (tcP rs ms xs k)) ∧ Below w.heap.size w wr) (fun i _ _ _ => n3 - (intOf i).toNat)
        case atStart => exact ⟨0, rfl, by omega, World.ownsRow_nil _ _ _ _, HW3.out⟩
        case round =>
          obtain ⟨k, rfl, hk, ho, hb⟩ := hrel
          obtain ⟨vA, vc, rfl⟩ := own_form ho
          have HO := Lib.hid ho
          have HBK := Lib.hid hb
          have hsw := hb.size
          clear ho hb
          by_cases hlt : k < n3
          · have hlt' : (k : Int) < (n3 : Int) := by omega
            have hk0 : (0 : Int) ≤ (k : Int) := by omega
            obtain ⟨x, ex⟩ : ∃ x, xs[k]? = some x := ⟨_, List.getElem?_eq_getElem (by have := HN.out; omega)⟩
            have HXV := Lib.hid (cvL_at HT3.out ex)
            have hst := tcP_step (rs := rs) (ms := ms) ex
            obtain ⟨P, hP⟩ : ∃ P, P = tcP rs ms xs k := ⟨_, rfl⟩
            have hPn : P.length ≤ 10 := by rw [hP]; have := tcP_len rs ms xs k; have := HN.out; omega
            rw [← hP] at HO hst ⊢
            have HST := Lib.hid hst
            obtain ⟨g, o, eA, hgl, c0, c1, c2, c3, c4, c5, c6, c7, c8⟩ := (HD.out.below HBK.out).at9 ex
            subst eA
            obtain ⟨fv, hfv⟩ : ∃ fv, fv = cvF rs ms x := ⟨_, rfl⟩
            have CX := Lib.hid (fun w h h2 => CF.out w x h h2 HT1.out HT2.out HXV.out)
            rw [← hfv] at CX HST
            clear ex hst hP hfv
            go_wp2_with fail
            refine (CX.out _ ((HA.out.below HBK.out).alloc _) ((HB.out.below HBK.out).alloc _)).mono ?_
            rintro e w5 ⟨rfl, b5⟩
            have e0 := (b5.cell (p := ⟨wr.heap.size, 0, none⟩) (by simp)).trans (World.cell?_alloc_at _ _ _ _ rfl)
            have hgl5 : wr.heap.size < w5.heap.size := by have := b5.size; simp at this; omega
            have hal : Below wr.heap.size wr w5 := ((Below.refl _ _).alloc (Nat.le_refl _) _).trans (b5.mono (by simp))
            have HO5 := Lib.hid (own_below HO.out hal)
            have HO6 := Lib.hid (fun o1 => HO5.out.alloc o1)
            have HB5 := Lib.hid (HBK.out.trans (hal.mono hsw))
            have hs5 := HB5.out.size
            clear b5 hal c0 c1 c2 c3 c4 c5 c6 c7 c8
            by_cases hf : fv = 0
            · have d0 : (fv == 0) = true := by simp [hf]
              have HST2 := Lib.hid HST.out
              rw [if_pos hf] at HST2
              clear HST hf
              go_wp2_with (at_builtin; go_must (refine wpList_app _ rfl (.tmp 35) (.tmp 38) 29 rfl w.heap.size 3 _ 1 8 Try.underlying29 infoI rfl (by omega) _ _ _ rfl (HO6.out _) _ 1 1 [.int .i64 x.a] rfl rfl (rd_new #[.int .i64 x.a] 3 (by simp)) (oneCell_ints [x.a]) (by unfold maxLen; omega) (by omega) (by simp; omega) ?_); intro v' w' o' g' d'; have HO7 := Lib.hid o'; have HG7 := Lib.hid g'; clear o' g' d')
              have HB7 : Hid (Below w.heap.size w w') := Lib.hid ((HB5.out.alloc hs5 _).grown HG7.out (by simp; omega) (fun b hb => (HO5.out.lt b hb).1))
              go_roundw
              case rel => exact ⟨k + 1, by go_num, by omega, by
                have h := HO7.out
                rw [show cells1 P ++ [Value.int .i64 x.a] = cells1 (P ++ [x.a]) by simp [cells1]] at h
                rw [HST2.out, List.length_append]; exact h, HB7.out⟩
              case measure => simp [intOf]; omega
            · have d0 : (fv == 0) = false := by simp [hf]
              have HST2 := Lib.hid HST.out
              rw [if_neg hf, List.append_nil] at HST2
              clear HST hf
              go_wp2
              go_roundw
              case rel => exact ⟨k + 1, by go_num, by omega, by rw [HST2.out]; exact HO5.out, HB5.out⟩
              case measure => simp [intOf]; omega
          · obtain rfl : k = n3 := by omega
            go_wp2
            go_ret2
            exact ⟨_, rfl, by rw [HN.out]; exact HO.out, HBK.out⟩
end Go.Proofs.Ytobloedpmjkgpaa
