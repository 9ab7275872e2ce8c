/- RunAuction: the program's and the reference's. -/
import Derived.Test.YtjnbcippipookaaAuR
namespace Go.Proofs.Ytjnbcippipookaa
set_option linter.unusedVariables false
set_option linter.unusedSimpArgs false
open Go.RowKit

set_option maxRecDepth 20000 in
set_option maxHeartbeats 4000000 in
theorem implRunAuction_any (A : Option Addr) (n c : Nat) (xs : List R5) (A2 : Option Addr) (n2 c2 : Nat) (ss : List R4) (w : World) (hn : xs.length = n) (hA : Rd w A (cells5 xs)) (h20 : n ≤ 1048576) (hn2 : ss.length = n2) (hA2 : Rd w A2 (cells4 ss)) (h60 : n2 ≤ 1000) :
    Calls Try.prog 14 #[.slice A n c, .slice A2 n2 c2] w (RetOwnIB 36 5 (runV xs ss).length (cells5 (runV xs ss)) (runK xs ss) (runB xs ss) w) := by
  have C0 := Lib.hid (fun w h => isAuction_any A n c xs w hn h h20)
  have HA := Lib.hid hA
  have HA2 := Lib.hid hA2
  have HN := Lib.hid hn
  have HN2 := Lib.hid hn2
  clear hA hA2
  cases hv : auc xs with
  | false =>
    rw [hv] at C0
    have hB : runB xs ss = false := by simp [runB, hv]
    obtain ⟨e1, e2⟩ := run_no hB
    rw [e1, e2, hB]
    clear e1 e2 hB hv hn hn2
    go_enter Try.func14, Try.ntmps14
    go_wp2_with fail
    refine (C0.out _ HA.out).mono ?_
    rintro e w1 ⟨rfl, b1⟩
    have hs1 := b1.size
    go_wp2
    go_ret3
    exact ⟨_, rfl, World.ownsRow_nil _ _ _ _, b1⟩
  | true =>
    rw [hv] at C0
    have HV := Lib.hid hv
    clear hv
    by_cases h40 : (40 : Int) < n2
    · have hB : runB xs ss = false := by simp [runB]; intros; have := HN2.out; omega
      obtain ⟨e1, e2⟩ := run_no hB
      rw [e1, e2, hB]
      clear e1 e2 hB hn hn2
      go_enter Try.func14, Try.ntmps14
      go_wp2_with fail
      refine (C0.out _ HA.out).mono ?_
      rintro e w1 ⟨rfl, b1⟩
      have hs1 := b1.size
      go_wp2
      go_ret3
      exact ⟨_, rfl, World.ownsRow_nil _ _ _ _, b1⟩
    · have hB : runB xs ss = true := by have := HV.out; have := HN2.out; simp [runB, HV.out]; omega
      obtain ⟨e1, e2⟩ := run_yes hB
      rw [e1, e2, hB]
      clear e1 e2 hB hn hn2
      have h40' : (n2 : Int) ≤ 40 := by omega
      have hx8 := auc_len HV.out
      go_enter Try.func14, Try.ntmps14
      go_wp2_with fail
      refine (C0.out _ HA.out).mono ?_
      rintro e w1 ⟨rfl, b1⟩
      have hs1 := b1.size
      have HB1 := Lib.hid b1
      clear b1
      go_wp2_with fail
      refine (cloneSaleLot_any A n c (cells5 xs) _ (by rw [length_cells5, HN.out]) (HA.out.below HB1.out) (oneCell_cells5 xs) h20).mono ?_
      rintro e w2 ⟨v2, rfl, o2, b2⟩
      have HO2 : Hid (w2.ownsRow w.heap.size 36 5 v2 xs.length (cells5 xs)) := Lib.hid (by rw [HN.out]; exact own_mono o2 hs1)
      have HB2 := Lib.hid (HB1.out.trans (b2.mono hs1))
      obtain ⟨A3, c3, rfl⟩ := own_form o2
      clear o2 b2 HB1
      go_wp2_with fail
      go_loopw [7, 8, 10, 11, 12, 25] (fun vn md _ _ _ i wr => ∃ j : Nat, i = .int .i64 j ∧ j ≤ n2 ∧ md = .int .i64 (runN xs (ss.take j) : Nat) ∧ wr.ownsRow w.heap.size 36 5 vn (runL xs (ss.take j)).length (cells5 (runL xs (ss.take j))) ∧ Below w.heap.size w wr) (fun _ _ _ _ _ i _ => n2 - (intOf i).toNat)
      case atStart => exact ⟨0, rfl, by omega, rfl, HO2.out, HB2.out⟩
      case round =>
        obtain ⟨j, rfl, hj, rfl, hO, hb⟩ := hrel
        have hmd := runN_take xs ss j
        obtain ⟨now, hnow⟩ : ∃ now, now = runL xs (ss.take j) := ⟨_, rfl⟩
        obtain ⟨md, hmdE⟩ : ∃ md, md = runN xs (ss.take j) := ⟨_, rfl⟩
        rw [← hnow] at hO
        rw [← hmdE] at hmd ⊢
        have HNOW := Lib.hid hnow
        have HMD := Lib.hid hmdE
        have HAN : Hid (auc now = true) := Lib.hid (by rw [hnow]; exact runL_auc HV.out)
        have hn8 := auc_len HAN.out
        obtain ⟨An, cn, rfl⟩ := own_form hO
        have HO := Lib.hid hO
        have HB := Lib.hid hb
        have hsz := hb.size
        clear hO hb hnow hmdE HO2 HB2
        by_cases hlt : j < n2
        · have hltd : (j : Int) < n2 := by omega
          have hj0 : (0 : Int) ≤ j := by omega
          obtain ⟨s, hs⟩ : ∃ s, ss[j]? = some s := ⟨ss[j]'(by have := HN2.out; omega), List.getElem?_eq_getElem _⟩
          have HS := Lib.hid hs
          obtain ⟨g, o, eA, hg, c0, c1, c2, c3_⟩ := (HA2.out.below HB.out).at4 hs
          subst eA
          obtain ⟨en, em⟩ := run_next (xs := xs) hs
          rw [← HNOW.out] at en em
          rw [← HMD.out] at em
          have HEN := Lib.hid en
          have HEM := Lib.hid em
          clear en em hs
          have hmd40 : IntKind.i64.wrap ((md : Int) + 1) = (md : Int) + 1 := IntWalk.i64_in _ (by omega)
          go_wp2_with fail
          obtain ⟨wx, hwx⟩ : ∃ wx, wx = wr.alloc (.cells #[.int .i64 s.a, .int .i64 s.b, .int .i64 s.c, .int .i64 s.d] 26) := ⟨_, rfl⟩
          have KS : Blk wx wr.heap.size [.int .i64 s.a, .int .i64 s.b, .int .i64 s.c, .int .i64 s.d] := by rw [hwx]; exact Blk.new wr _ _
          have bx : Below wr.heap.size wr wx := by rw [hwx]; exact (Below.refl _ _).alloc (Nat.le_refl _) _
          rw [← hwx]
          clear hwx c0 c1 c2 c3_
          have HOx := Lib.hid (own_below HO.out bx)
          have HBx := Lib.hid (HB.out.trans (bx.mono hsz))
          clear bx HO HB
          refine (isAuctionStep_any s.a s.b s.c s.d _).mono ?_
          rintro e w4 ⟨rfl, b4⟩
          have KS4 := KS.below b4 KS.lt
          have HO4 := Lib.hid (own_below HOx.out b4)
          have HB4 := Lib.hid (HBx.out.trans (b4.mono HBx.out.size))
          clear b4 HOx HBx KS
          cases hsB : stepB s.a s.b s.c s.d with
          | false =>
            have hr : runO now s = false := by simp [runO, hsB]
            have HR := Lib.hid hr
            clear hr hsB
            go_wp2
            go_roundw
            case rel => exact ⟨j + 1, by go_num, by omega, by rw [HEM.out, HR.out]; go_num, by rw [HEN.out, runO_no HR.out]; exact HO4.out, HB4.out⟩
            case measure => simp [intOf]; omega
          | true =>
            have HSB := Lib.hid hsB
            clear hsB
            have s0 := KS4.cell 0 _ rfl
            have s1 := KS4.cell 1 _ rfl
            have s2 := KS4.cell 2 _ rfl
            have s3 := KS4.cell 3 _ rfl
            go_wp2_with fail
            refine (stepAuction_any An now.length cn now s.a s.b s.c s.d _ rfl (Rd.of_own HO4.out) HAN.out HSB.out).mono ?_
            rintro e w5 ⟨v5, rfl, o5, b5⟩
            clear s0 s1 s2 s3
            have HO5 : Hid (stB now s.a s.b s.c s.d = true → w5.ownsRow w.heap.size 36 5 v5 (stL now s.a s.b s.c s.d).length (cells5 (stL now s.a s.b s.c s.d))) := Lib.hid (fun _ => own_mono o5 HB4.out.size)
            obtain ⟨A5, c5, rfl⟩ := own_form o5
            have HO45 := Lib.hid (own_below HO4.out b5)
            have HB5 := Lib.hid (HB4.out.trans (b5.mono HB4.out.size))
            clear o5 b5
            cases hb : stB now s.a s.b s.c s.d with
            | false =>
              have hr : runO now s = false := by simp [runO, hb]
              have HR := Lib.hid hr
              clear hr hb HO5
              go_wp2
              go_roundw
              case rel => exact ⟨j + 1, by go_num, by omega, by rw [HEM.out, HR.out]; go_num, by rw [HEN.out, runO_no HR.out]; exact HO45.out, HB5.out⟩
              case measure => simp [intOf]; omega
            | true =>
              have hr : runO now s = true := by simp [runO, hb, HSB.out]
              have HR := Lib.hid hr
              have HO6 := Lib.hid (HO5.out hb)
              clear hr hb HO5
              go_wp2
              go_roundw
              case rel => exact ⟨j + 1, by go_num, by omega, by rw [HEM.out, HR.out]; go_num, by rw [HEN.out, (runO_yes HR.out).2.2]; exact HO6.out, HB5.out⟩
              case measure => simp [intOf]; omega
        · have hjn : n2 = j := by omega
          have hge : (n2 : Int) ≤ j := by omega
          have HE : Hid (ss.take j = ss) := Lib.hid (List.take_of_length_le (by have := HN2.out; omega))
          clear hjn
          go_wp2
          go_ret3
          have h1 := HNOW.out; rw [HE.out] at h1
          have h2 := HMD.out; rw [HE.out] at h2
          rw [← h1, ← h2]
          exact ⟨_, rfl, HO.out, HB.out⟩

set_option maxRecDepth 20000 in
set_option maxHeartbeats 4000000 in
theorem specRunAuction_any (A : Option Addr) (n c : Nat) (xs : List R5) (A2 : Option Addr) (n2 c2 : Nat) (ss : List R4) (w : World) (hn : xs.length = n) (hA : Rd w A (cells5 xs)) (h20 : n ≤ 1048576) (hn2 : ss.length = n2) (hA2 : Rd w A2 (cells4 ss)) (h60 : n2 ≤ 1000) :
    Calls Try.prog 15 #[.slice A n c, .slice A2 n2 c2] w (RetOwnIB 36 5 (runV xs ss).length (cells5 (runV xs ss)) (runK xs ss) (runB xs ss) w) := by
  have C0 := Lib.hid (fun w h => l29Good_any A n c xs w hn h h20)
  have HA := Lib.hid hA
  have HA2 := Lib.hid hA2
  have HN := Lib.hid hn
  have HN2 := Lib.hid hn2
  clear hA hA2
  cases hv : auc xs with
  | false =>
    rw [hv] at C0
    have hB : runB xs ss = false := by simp [runB, hv]
    obtain ⟨e1, e2⟩ := run_no hB
    rw [e1, e2, hB]
    clear e1 e2 hB hv hn hn2
    go_enter Try.func15, Try.ntmps15
    go_wp2_with fail
    refine (C0.out _ HA.out).mono ?_
    rintro e w1 ⟨rfl, b1⟩
    have hs1 := b1.size
    go_wp2
    go_ret3
    exact ⟨_, rfl, own_empty _ _ _ _ hs1, b1.alloc hs1 _⟩
  | true =>
    rw [hv] at C0
    have HV := Lib.hid hv
    clear hv
    by_cases h40 : (40 : Int) < n2
    · have hB : runB xs ss = false := by simp [runB]; intros; have := HN2.out; omega
      obtain ⟨e1, e2⟩ := run_no hB
      rw [e1, e2, hB]
      clear e1 e2 hB hn hn2
      go_enter Try.func15, Try.ntmps15
      go_wp2_with fail
      refine (C0.out _ HA.out).mono ?_
      rintro e w1 ⟨rfl, b1⟩
      have hs1 := b1.size
      go_wp2
      go_ret3
      exact ⟨_, rfl, own_empty _ _ _ _ hs1, b1.alloc hs1 _⟩
    · have hB : runB xs ss = true := by have := HV.out; have := HN2.out; simp [runB, HV.out]; omega
      obtain ⟨e1, e2⟩ := run_yes hB
      rw [e1, e2, hB]
      clear e1 e2 hB hn hn2
      have h40' : (n2 : Int) ≤ 40 := by omega
      have hx8 := auc_len HV.out
      go_enter Try.func15, Try.ntmps15
      go_wp2_with fail
      refine (C0.out _ HA.out).mono ?_
      rintro e w1 ⟨rfl, b1⟩
      have hs1 := b1.size
      have HB1 := Lib.hid b1
      clear b1
      have HO := Lib.hid (own_empty w1 w.heap.size 36 5 hs1)
      have HX := Lib.hid ((HA.out.below HB1.out).alloc (.cells #[] 36))
      have hbs : w.heap.size ≤ (w1.alloc (.cells #[] 36)).heap.size := by simp; omega
      have HNC : Hid (n ≤ 8) := Lib.hid (by have := HN.out; omega)
      have hn8 : n ≤ 8 := HNC.out
      go_wp2_with (at_builtin; go_must (refine wpList_app _ rfl (.tmp 21) (.tmp 22) 24 rfl w.heap.size 36 _ 5 40 Try.underlying24 info36 rfl (by omega) _ 0 [] rfl HO.out A n c (cells5 xs) rfl (by rw [length_cells5, HN.out]) HX.out (oneCell_cells5 xs) (by unfold maxLen; omega) (by omega) hbs ?_); intro v2 w2 o2 g2 d2; refine Hid.out ?_)
      rw [List.nil_append, Nat.zero_add] at o2
      obtain ⟨A3, c3, rfl⟩ := own_form o2
      have HO2 : Hid (w2.ownsRow w.heap.size 36 5 (.slice A3 n c3) xs.length (cells5 xs)) := Lib.hid (by rw [HN.out]; exact o2)
      have HB2 := Lib.hid ((HB1.out.alloc hs1 (.cells #[] 36)).grown g2 hbs (fun k hk => (HO.out.lt k hk).1))
      clear o2 g2 d2 HO HX hbs HB1 hn8
      refine Lib.hid ?_
      go_wp2_with fail
      go_loopw [7, 8, 9, 10, 11] (fun vn md i _ _ wr => ∃ j : Nat, i = .int .i64 j ∧ j ≤ n2 ∧ md = .int .i64 (runN xs (ss.take j) : Nat) ∧ wr.ownsRow w.heap.size 36 5 vn (runL xs (ss.take j)).length (cells5 (runL xs (ss.take j))) ∧ Below w.heap.size w wr) (fun _ _ i _ _ _ => n2 - (intOf i).toNat)
      case atStart => exact ⟨0, rfl, by omega, rfl, HO2.out, HB2.out⟩
      case round =>
        obtain ⟨j, rfl, hj, rfl, hO, hb⟩ := hrel
        have hmd := runN_take xs ss j
        obtain ⟨now, hnow⟩ : ∃ now, now = runL xs (ss.take j) := ⟨_, rfl⟩
        obtain ⟨md, hmdE⟩ : ∃ md, md = runN xs (ss.take j) := ⟨_, rfl⟩
        rw [← hnow] at hO
        rw [← hmdE] at hmd ⊢
        have HNOW := Lib.hid hnow
        have HMD := Lib.hid hmdE
        have HAN : Hid (auc now = true) := Lib.hid (by rw [hnow]; exact runL_auc HV.out)
        have hn8 := auc_len HAN.out
        obtain ⟨An, cn, rfl⟩ := own_form hO
        have HO := Lib.hid hO
        have HB := Lib.hid hb
        have hsz := hb.size
        clear hO hb hnow hmdE HO2 HB2
        by_cases hlt : j < n2
        · have hltd : (j : Int) < n2 := by omega
          have hj0 : (0 : Int) ≤ j := by omega
          obtain ⟨s, hs⟩ : ∃ s, ss[j]? = some s := ⟨ss[j]'(by have := HN2.out; omega), List.getElem?_eq_getElem _⟩
          have HS := Lib.hid hs
          obtain ⟨g, o, eA, hg, c0, c1, c2, c3_⟩ := (HA2.out.below HB.out).at4 hs
          subst eA
          obtain ⟨en, em⟩ := run_next (xs := xs) hs
          rw [← HNOW.out] at en em
          rw [← HMD.out] at em
          have HEN := Lib.hid en
          have HEM := Lib.hid em
          clear en em hs
          have hmd40 : IntKind.i64.wrap ((md : Int) + 1) = (md : Int) + 1 := IntWalk.i64_in _ (by omega)
          go_wp2_with fail
          have HOx := HO
          have HBx := HB
          clear HO HB
          refine (l29Step_any s.a s.b s.c s.d _).mono ?_
          rintro e w4 ⟨rfl, b4⟩
          have HO4 := Lib.hid (own_below HOx.out b4)
          have HB4 := Lib.hid (HBx.out.trans (b4.mono HBx.out.size))
          clear b4 HOx HBx c0 c1 c2 c3_
          cases hsB : stepB s.a s.b s.c s.d with
          | false =>
            have hr : runO now s = false := by simp [runO, hsB]
            have HR := Lib.hid hr
            clear hr hsB
            go_wp2
            go_roundw
            case rel => exact ⟨j + 1, by go_num, by omega, by rw [HEM.out, HR.out]; go_num, by rw [HEN.out, runO_no HR.out]; exact HO4.out, HB4.out⟩
            case measure => simp [intOf]; omega
          | true =>
            have HSB := Lib.hid hsB
            clear hsB
            obtain ⟨g2, o2, eA, hg2, c0, c1, c2, c3_⟩ := (HA2.out.below HB4.out).at4 HS.out
            injection eA with eA; injection eA with eA1 eA2; subst eA1; subst eA2
            go_wp2_with fail
            refine (l29Make_any An now.length cn now s.a s.b s.c s.d _ rfl (Rd.of_own HO4.out) HAN.out HSB.out (own_capS HO4.out).1 (own_capS HO4.out).2).mono ?_
            rintro e w5 ⟨v5, L5, rfl, o5, hL5, b5⟩
            clear c0 c1 c2 c3_
            have HO5 : Hid (stB now s.a s.b s.c s.d = true → w5.ownsRow w.heap.size 36 5 v5 (stL now s.a s.b s.c s.d).length (cells5 (stL now s.a s.b s.c s.d))) := Lib.hid (fun h => by rw [← hL5 h]; exact own_mono o5 HB4.out.size)
            obtain ⟨A5, c5, rfl⟩ := own_form o5
            have HO45 := Lib.hid (own_below HO4.out b5)
            have HB5 := Lib.hid (HB4.out.trans (b5.mono HB4.out.size))
            clear o5 b5 hL5
            cases hb : stB now s.a s.b s.c s.d with
            | false =>
              have hr : runO now s = false := by simp [runO, hb]
              have HR := Lib.hid hr
              clear hr hb HO5
              go_wp2
              go_roundw
              case rel => exact ⟨j + 1, by go_num, by omega, by rw [HEM.out, HR.out]; go_num, by rw [HEN.out, runO_no HR.out]; exact HO45.out, HB5.out⟩
              case measure => simp [intOf]; omega
            | true =>
              have hr : runO now s = true := by simp [runO, hb, HSB.out]
              have HR := Lib.hid hr
              have HO6 := Lib.hid (HO5.out hb)
              clear hr hb HO5
              go_wp2
              go_roundw
              case rel => exact ⟨j + 1, by go_num, by omega, by rw [HEM.out, HR.out]; go_num, by rw [HEN.out, (runO_yes HR.out).2.2]; exact HO6.out, HB5.out⟩
              case measure => simp [intOf]; omega
        · have hjn : n2 = j := by omega
          have hge : (n2 : Int) ≤ j := by omega
          have HE : Hid (ss.take j = ss) := Lib.hid (List.take_of_length_le (by have := HN2.out; omega))
          clear hjn
          go_wp2
          go_ret3
          have h1 := HNOW.out; rw [HE.out] at h1
          have h2 := HMD.out; rw [HE.out] at h2
          rw [← h1, ← h2]
          exact ⟨_, rfl, HO.out, HB.out⟩

end Go.Proofs.Ytjnbcippipookaa
