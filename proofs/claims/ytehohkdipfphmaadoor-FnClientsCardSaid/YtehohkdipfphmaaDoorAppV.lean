/- Approvals: OverdueIds. -/
import Derived.Test.YtehohkdipfphmaaDoorAppP
import Derived.Test.YtehohkdipfphmaaDoorList
import Derived.Test.YtehohkdipfphmaaDoorAppR
namespace Go.Proofs.YtehohkdipfphmaaDoor
set_option linter.unusedVariables false
set_option linter.unusedSimpArgs false
open Go.RowKit

def odStep (day most : Int) (x : AR) : List Int := if outB x day = true ∧ most < day - x.sent then [x.id] else []
def odP (xs : List AR) (day most : Int) (k : Nat) : List Int := (xs.take k).flatMap (odStep day most)
theorem odP_step {xs : List AR} {day most : Int} {k : Nat} {x : AR} (h : xs[k]? = some x) : odP xs day most (k + 1) = odP xs day most k ++ odStep day most x := by simp [odP, List.take_add_one, h]
theorem odP_len (xs : List AR) (day most : Int) : ∀ k : Nat, (odP xs day most k).length ≤ k
  | 0 => by simp [odP]
  | k + 1 => by
    have ih := odP_len xs day most k
    cases hx : xs[k]? with
    | none => rw [show odP xs day most (k + 1) = odP xs day most k by simp [odP, List.take_add_one, hx]]; omega
    | some x =>
      rw [odP_step hx, List.length_append]
      have : (odStep day most x).length ≤ 1 := by unfold odStep; split <;> simp
      omega
noncomputable def odB (xs : List AR) (day most : Int) : Bool := goodA xs && (inR day 0 4000 && inR most 0 4000)
noncomputable def odV (xs : List AR) (day most : Int) : List Int := if odB xs day most = true then odP xs day most xs.length else []
theorem odV_len (xs : List AR) (day most : Int) : (odV xs day most).length ≤ 1048576 := by
  unfold odV
  split
  · rename_i h
    have hg : goodA xs = true := by simp only [odB, Bool.and_eq_true] at h; exact h.1
    have := odP_len xs day most xs.length
    have := (goodA_yes hg).2
    omega
  · simp
theorem l28Out_any (x : AR) (B : Option Addr) (c : Nat) (D : Option Addr) (d : Nat) (day : Int) (w : World) (hb : x.back = -1 ∨ 0 ≤ x.back) :
    Calls Tryd.prog 46 #[.agg #[.int .i64 x.id, .string x.client, .int .i64 x.sent, .slice B x.items.length c, .slice D x.kept.length d, .int .i64 x.back], .int .i64 day] w (Ret (.bool (outB x day)) w) := by
  by_cases h : x.sent ≤ day
  · have f1 : decide (x.sent ≤ day) = true := by simpa using h
    by_cases h2 : x.back = -1
    · have f2 : (x.back == -1) = true := by simp [h2]
      have HV := Lib.hid (show outB x day = true by simp [outB, h, h2, inR])
      go_enter Tryd.func46, Tryd.ntmps46
      go_wp2
      go_ret
      exact ⟨ret_bool HV.out.symm, (Below.refl _ _).alloc (Nat.le_refl _) _⟩
    · have f2 : (x.back == -1) = false := by simp [h2]
      have HV := Lib.hid (show decide (day < x.back) = outB x day by
        have e0 : inR x.back 0 day = !decide (day < x.back) := by
          cases hq : inR x.back 0 day with
          | true => obtain ⟨-, h3⟩ := inR_true.1 hq; simp; omega
          | false =>
            have : ¬ (0 ≤ x.back ∧ x.back ≤ day) := fun h4 => by rw [inR_true.2 h4] at hq; cases hq
            simp; omega
        rw [outB, f1, e0]; simp)
      go_enter Tryd.func46, Tryd.ntmps46
      go_wp2
      go_ret
      exact ⟨ret_bool HV.out, (Below.refl _ _).alloc (Nat.le_refl _) _⟩
  · have f1 : decide (x.sent ≤ day) = false := by simpa using h
    have HV := Lib.hid (show outB x day = false by simp [outB, h])
    go_enter Tryd.func46, Tryd.ntmps46
    go_wp2
    go_ret
    exact ⟨ret_bool HV.out.symm, (Below.refl _ _).alloc (Nat.le_refl _) _⟩

set_option maxRecDepth 20000 in
set_option maxHeartbeats 4000000 in
theorem specOverdueIds_any (A : Option Addr) (n c : Nat) (xs : List AR) (day most : Int) (w : World) (hn : xs.length = n) (hA : RdA w A xs) (h20 : n ≤ 1048576) (hw : ∀ x ∈ xs, smA x) (hcap : n ≤ c ∧ c ≤ maxLen) :
    Calls Tryd.prog 16 #[.slice A n c, .int .i64 day, .int .i64 most] w (RetOwnB 3 1 (odV xs day most).length (cells1 (odV xs day most)) (odB xs day most) w) := by
  have C0 := Lib.hid (fun w h => l28Good_any A n c xs w hn h (by omega) hw)
  have C1 := Lib.hid (fun w => l2Day_any day w)
  have C2 := Lib.hid (fun w => l1In_any most 0 4000 w)
  have HA := Lib.hid hA
  have HW := Lib.hid hw
  have HN := Lib.hid hn
  obtain ⟨V, hV⟩ : ∃ V, V = odV xs day most := ⟨_, rfl⟩
  obtain ⟨Q, hQ⟩ : ∃ Q, Q = odB xs day most := ⟨_, rfl⟩
  rw [← hV, ← hQ]
  have HV := Lib.hid hV
  have HQ := Lib.hid hQ
  clear hV hQ hn hA hw hcap
  cases h0 : goodA xs with
  | false =>
    have HF : Hid (odB xs day most = false) := Lib.hid (by simp only [odB, h0, Bool.true_and, Bool.false_and])
    rw [h0] at C0
    clear h0
    go_enter Tryd.func16, Tryd.ntmps16
    go_wp2_with fail
    refine (C0.out _ (HA.out.alloc _)).mono ?_
    rintro e w1 ⟨rfl, b1⟩
    have B1 := Lib.hid (((Below.refl w.heap.size w).alloc (Nat.le_refl _) (.cells #[] 3)).trans (b1.mono (by simp)))
    go_wp2
    go_ret2
    have e0 : V = [] := by rw [HV.out, odV, if_neg (by rw [HF.out]; simp)]
    subst e0
    rw [show Q = false by rw [HQ.out, HF.out]]
    exact ⟨_, rfl, own_below (own_empty w w.heap.size 3 1 (Nat.le_refl _)) b1, B1.out⟩
  | true =>
    rw [h0] at C0
    cases h1 : inR day 0 4000 with
    | false =>
      have HF : Hid (odB xs day most = false) := Lib.hid (by simp only [odB, h0, h1, Bool.true_and, Bool.false_and])
      rw [h1] at C1
      clear h0 h1
      go_enter Tryd.func16, Tryd.ntmps16
      go_wp2_with fail
      refine (C0.out _ (HA.out.alloc _)).mono ?_
      rintro e w1 ⟨rfl, b1⟩
      go_wp2_with fail
      refine (C1.out _).mono ?_
      rintro e w2 ⟨rfl, rfl⟩
      have B1 := Lib.hid (((Below.refl w.heap.size w).alloc (Nat.le_refl _) (.cells #[] 3)).trans (b1.mono (by simp)))
      go_wp2
      go_ret2
      have e0 : V = [] := by rw [HV.out, odV, if_neg (by rw [HF.out]; simp)]
      subst e0
      rw [show Q = false by rw [HQ.out, HF.out]]
      exact ⟨_, rfl, own_below (own_empty w w.heap.size 3 1 (Nat.le_refl _)) b1, B1.out⟩
    | true =>
      rw [h1] at C1
      cases h2 : inR most 0 4000 with
      | false =>
        have HF : Hid (odB xs day most = false) := Lib.hid (by simp only [odB, h0, h1, h2, Bool.true_and, Bool.false_and])
        rw [h2] at C2
        clear h0 h1 h2
        go_enter Tryd.func16, Tryd.ntmps16
        go_wp2_with fail
        refine (C0.out _ (HA.out.alloc _)).mono ?_
        rintro e w1 ⟨rfl, b1⟩
        go_wp2_with fail
        refine (C1.out _).mono ?_
        rintro e w2 ⟨rfl, rfl⟩
        go_wp2_with fail
        refine (C2.out _).mono ?_
        rintro e w2 ⟨rfl, rfl⟩
        have B1 := Lib.hid (((Below.refl w.heap.size w).alloc (Nat.le_refl _) (.cells #[] 3)).trans (b1.mono (by simp)))
        go_wp2
        go_ret2
        have e0 : V = [] := by rw [HV.out, odV, if_neg (by rw [HF.out]; simp)]
        subst e0
        rw [show Q = false by rw [HQ.out, HF.out]]
        exact ⟨_, rfl, own_below (own_empty w w.heap.size 3 1 (Nat.le_refl _)) b1, B1.out⟩
      | true =>
        rw [h2] at C2
        have HT : Hid (odB xs day most = true) := Lib.hid (by simp only [odB, h0, h1, h2, Bool.true_and])
        have HG := Lib.hid h0
        obtain ⟨hd0, hd1⟩ := inR_true.1 h1
        obtain ⟨hm0, hm1⟩ := inR_true.1 h2
        have hn12 : n ≤ 12 := by have := (goodA_yes h0).2; have := HN.out; omega
        clear h0 h1 h2
        go_enter Tryd.func16, Tryd.ntmps16
        go_wp2_with fail
        refine (C0.out _ (HA.out.alloc _)).mono ?_
        rintro e w1 ⟨rfl, b1⟩
        go_wp2_with fail
        refine (C1.out _).mono ?_
        rintro e w2 ⟨rfl, rfl⟩
        go_wp2_with fail
        refine (C2.out _).mono ?_
        rintro e w2 ⟨rfl, rfl⟩
        have O1 := Lib.hid (own_below (own_empty w w.heap.size 3 1 (Nat.le_refl _)) b1)
        have B1 := Lib.hid (((Below.refl w.heap.size w).alloc (Nat.le_refl _) (.cells #[] 3)).trans (b1.mono (by simp)))
        clear b1
        go_wp2_with fail
        go_loopw [8, 9] (fun v i wr => ∃ k : Nat, k ≤ n ∧ i = .int .i64 k ∧ wr.ownsRow w.heap.size 3 1 v (odP xs day most k).length (cells1 (odP xs day most k)) ∧ Below w.heap.size w wr) (fun _ i _ => n - (intOf i).toNat)
        case atStart => exact ⟨0, Nat.zero_le _, rfl, by simpa [odP, cells1] using O1.out, B1.out⟩
        case round =>
          obtain ⟨k, hk, rfl, ho, hb⟩ := hrel
          have hs := hb.size
          have HO := Lib.hid ho
          clear ho
          by_cases hlt : k < n
          · obtain ⟨x, hxk⟩ : ∃ x, xs[k]? = some x := ⟨xs[k]'(by have := HN.out; omega), List.getElem?_eq_getElem _⟩
            obtain ⟨g, o, B, cb, D, cd, rfl, hrow⟩ := (HA.out.below hb).at hxk
            have hone := goodA_ones HG.out x (List.mem_of_getElem? hxk)
            obtain ⟨⟨hs0, hs1⟩, -⟩ := one_bd hone
            have hbk := one_back hone
            have hpl := odP_len xs day most k
            have HST := Lib.hid (odP_step (day := day) (most := most) hxk)
            have CO := Lib.hid (fun w => l28Out_any x B cb D cd day w hbk)
            have HRA := Lib.hid (fun (w' : World) (h : Below wr.heap.size wr w') => hrow.below h)
            obtain ⟨hg, -, c0, c1, c2, c3, c4, c5, -, -, -, -, -, -⟩ := hrow
            clear hxk hone hbk
            cases p1 : outB x day with
            | false =>
              rw [p1] at CO
              have HS := Lib.hid (show odP xs day most (k + 1) = odP xs day most k by rw [HST.out, odStep, if_neg (fun h => by rw [p1] at h; exact absurd h.1 (by simp))]; exact List.append_nil _)
              go_wp2_with fail
              refine (CO.out _).mono ?_
              rintro e w4 ⟨rfl, b4⟩
              have HB4 := Lib.hid (hb.trans (b4.mono hb.size))
              have HO4 := Lib.hid (own_below HO.out b4)
              obtain ⟨hg4, -, z0, -, z2, -, -, -, -, -, -, -, -, -⟩ := HRA.out _ b4
              have hs4 := HB4.out.size
              clear b4 c0 c1 c2 c3 c4 c5
              go_wp2
              go_roundw
              case rel => exact ⟨k + 1, by omega, by go_num, by rw [HS.out]; exact HO4.out, HB4.out⟩
              case measure => simp [intOf]; omega
            | true =>
              rw [p1] at CO
              by_cases q1 : most < day - x.sent
              · have f1 : decide (most < day - x.sent) = true := by simpa using q1
                have HS := Lib.hid (show odP xs day most (k + 1) = odP xs day most k ++ [x.id] by rw [HST.out, odStep, if_pos ⟨p1, q1⟩])
                clear q1
                go_wp2_with fail
                refine (CO.out _).mono ?_
                rintro e w4 ⟨rfl, b4⟩
                have HB4 := Lib.hid (hb.trans (b4.mono hb.size))
                have HO4 := Lib.hid (own_below HO.out b4)
                obtain ⟨hg4, -, z0, -, z2, -, -, -, -, -, -, -, -, -⟩ := HRA.out _ b4
                have hs4 := HB4.out.size
                clear b4 c0 c1 c2 c3 c4 c5
                have HO5 := Lib.hid (fun q => own_below HO4.out ((Below.refl _ _).alloc (Nat.le_refl _) q))
                go_wp2_with (at_builtin; go_must (refine wpList_app _ rfl (.tmp 48) (.tmp 54) 27 rfl w.heap.size 3 _ 1 8 Tryd.underlying27 infoI rfl (by omega) _ _ _ rfl (HO5.out _) _ 1 1 [.int .i64 x.id] rfl rfl (rd_new #[.int .i64 x.id] 3 (by simp)) (oneCell_ints [x.id]) (by unfold maxLen; omega) (by omega) (by simp; omega) ?_); intro v' w' o' g' d'; have hb' := Lib.hid ((HB4.out.alloc HB4.out.size _).trans (below_app (HO5.out _) g' (by simp; omega) (Nat.le_refl _))); clear g' d')
                have HO6 := Lib.hid o'
                clear o'
                go_roundw
                case rel => exact ⟨k + 1, by omega, by go_num, by rw [HS.out, cells1_append, List.length_append]; exact HO6.out, hb'.out⟩
                case measure => simp [intOf]; omega
              · have f1 : decide (most < day - x.sent) = false := by simpa using q1
                have HS := Lib.hid (show odP xs day most (k + 1) = odP xs day most k by rw [HST.out, odStep, if_neg (fun h => q1 h.2)]; exact List.append_nil _)
                clear q1
                go_wp2_with fail
                refine (CO.out _).mono ?_
                rintro e w4 ⟨rfl, b4⟩
                have HB4 := Lib.hid (hb.trans (b4.mono hb.size))
                have HO4 := Lib.hid (own_below HO.out b4)
                obtain ⟨hg4, -, z0, -, z2, -, -, -, -, -, -, -, -, -⟩ := HRA.out _ b4
                have hs4 := HB4.out.size
                clear b4 c0 c1 c2 c3 c4 c5
                go_wp2
                go_roundw
                case rel => exact ⟨k + 1, by omega, by go_num, by rw [HS.out]; exact HO4.out, HB4.out⟩
                case measure => simp [intOf]; omega
          · have hd : decide (k < n) = false := by simpa using hlt
            go_wp2
            go_ret2
            have hkn : k = xs.length := by have := HN.out; omega
            have e0 : V = odP xs day most k := by rw [HV.out, odV, if_pos HT.out, hkn]
            rw [show Q = true by rw [HQ.out, HT.out], e0]
            exact ⟨_, rfl, HO.out, hb⟩

set_option maxRecDepth 20000 in
set_option maxHeartbeats 4000000 in
theorem implOverdueIds_any (A : Option Addr) (n c : Nat) (xs : List AR) (day most : Int) (w : World) (hn : xs.length = n) (hA : RdA w A xs) (h20 : n ≤ 1048576) (hw : ∀ x ∈ xs, smA x) (hcap : n ≤ c ∧ c ≤ maxLen) :
    Calls Tryd.prog 15 #[.slice A n c, .int .i64 day, .int .i64 most] w (RetOwnB 3 1 (odV xs day most).length (cells1 (odV xs day most)) (odB xs day most) w) := by
  have C0 := Lib.hid (fun w h => areApprovals_any A n c xs w hn h (by omega) hw hcap)
  have C1 := Lib.hid (fun w => isDay_any day w)
  have C2 := Lib.hid (fun w => inRange_any most 0 4000 w)
  have HA := Lib.hid hA
  have HW := Lib.hid hw
  have HN := Lib.hid hn
  obtain ⟨V, hV⟩ : ∃ V, V = odV xs day most := ⟨_, rfl⟩
  obtain ⟨Q, hQ⟩ : ∃ Q, Q = odB xs day most := ⟨_, rfl⟩
  rw [← hV, ← hQ]
  have HV := Lib.hid hV
  have HQ := Lib.hid hQ
  clear hV hQ hn hA hw hcap
  cases h0 : goodA xs with
  | false =>
    have HF : Hid (odB xs day most = false) := Lib.hid (by simp only [odB, h0, Bool.true_and, Bool.false_and])
    rw [h0] at C0
    clear h0
    go_enter Tryd.func15, Tryd.ntmps15
    go_wp2_with fail
    refine (C0.out _ HA.out).mono ?_
    rintro e w1 ⟨rfl, b1⟩
    have B1 := Lib.hid b1
    go_wp2
    go_ret2
    have e0 : V = [] := by rw [HV.out, odV, if_neg (by rw [HF.out]; simp)]
    subst e0
    rw [show Q = false by rw [HQ.out, HF.out]]
    exact ⟨_, rfl, World.ownsRow_nil _ _ _ _, B1.out⟩
  | true =>
    rw [h0] at C0
    cases h1 : inR day 0 4000 with
    | false =>
      have HF : Hid (odB xs day most = false) := Lib.hid (by simp only [odB, h0, h1, Bool.true_and, Bool.false_and])
      rw [h1] at C1
      clear h0 h1
      go_enter Tryd.func15, Tryd.ntmps15
      go_wp2_with fail
      refine (C0.out _ HA.out).mono ?_
      rintro e w1 ⟨rfl, b1⟩
      go_wp2_with fail
      refine (C1.out _).mono ?_
      rintro e w2 ⟨rfl, rfl⟩
      have B1 := Lib.hid b1
      go_wp2
      go_ret2
      have e0 : V = [] := by rw [HV.out, odV, if_neg (by rw [HF.out]; simp)]
      subst e0
      rw [show Q = false by rw [HQ.out, HF.out]]
      exact ⟨_, rfl, World.ownsRow_nil _ _ _ _, B1.out⟩
    | true =>
      rw [h1] at C1
      cases h2 : inR most 0 4000 with
      | false =>
        have HF : Hid (odB xs day most = false) := Lib.hid (by simp only [odB, h0, h1, h2, Bool.true_and, Bool.false_and])
        rw [h2] at C2
        clear h0 h1 h2
        go_enter Tryd.func15, Tryd.ntmps15
        go_wp2_with fail
        refine (C0.out _ HA.out).mono ?_
        rintro e w1 ⟨rfl, b1⟩
        go_wp2_with fail
        refine (C1.out _).mono ?_
        rintro e w2 ⟨rfl, rfl⟩
        go_wp2_with fail
        refine (C2.out _).mono ?_
        rintro e w2 ⟨rfl, rfl⟩
        have B1 := Lib.hid b1
        go_wp2
        go_ret2
        have e0 : V = [] := by rw [HV.out, odV, if_neg (by rw [HF.out]; simp)]
        subst e0
        rw [show Q = false by rw [HQ.out, HF.out]]
        exact ⟨_, rfl, World.ownsRow_nil _ _ _ _, B1.out⟩
      | true =>
        rw [h2] at C2
        have HT : Hid (odB xs day most = true) := Lib.hid (by simp only [odB, h0, h1, h2, Bool.true_and])
        have HG := Lib.hid h0
        obtain ⟨hd0, hd1⟩ := inR_true.1 h1
        obtain ⟨hm0, hm1⟩ := inR_true.1 h2
        have hn12 : n ≤ 12 := by have := (goodA_yes h0).2; have := HN.out; omega
        clear h0 h1 h2
        go_enter Tryd.func15, Tryd.ntmps15
        go_wp2_with fail
        refine (C0.out _ HA.out).mono ?_
        rintro e w1 ⟨rfl, b1⟩
        go_wp2_with fail
        refine (C1.out _).mono ?_
        rintro e w2 ⟨rfl, rfl⟩
        go_wp2_with fail
        refine (C2.out _).mono ?_
        rintro e w2 ⟨rfl, rfl⟩
        have B1 := Lib.hid b1
        clear b1
        go_wp2_with fail
        go_loopw [8, 26] (fun v i wr => ∃ k : Nat, k ≤ n ∧ i = .int .i64 k ∧ wr.ownsRow w.heap.size 3 1 v (odP xs day most k).length (cells1 (odP xs day most k)) ∧ Below w.heap.size w wr) (fun _ i _ => n - (intOf i).toNat)
        case atStart => exact ⟨0, Nat.zero_le _, rfl, by simpa [odP, cells1] using World.ownsRow_nil _ _ _ _, B1.out⟩
        case round =>
          obtain ⟨k, hk, rfl, ho, hb⟩ := hrel
          have hs := hb.size
          have HO := Lib.hid ho
          clear ho
          by_cases hlt : k < n
          · obtain ⟨x, hxk⟩ : ∃ x, xs[k]? = some x := ⟨xs[k]'(by have := HN.out; omega), List.getElem?_eq_getElem _⟩
            obtain ⟨g, o, B, cb, D, cd, rfl, hrow⟩ := (HA.out.below hb).at hxk
            have hone := goodA_ones HG.out x (List.mem_of_getElem? hxk)
            obtain ⟨⟨hs0, hs1⟩, -⟩ := one_bd hone
            have hbk := one_back hone
            have hpl := odP_len xs day most k
            have HST := Lib.hid (odP_step (day := day) (most := most) hxk)
            have CO := Lib.hid (fun w => isOut_any x B cb D cd day w)
            have HRA := Lib.hid (fun (w' : World) (h : Below wr.heap.size wr w') => hrow.below h)
            obtain ⟨W3, hW3⟩ : ∃ W3, W3 = wr.alloc (.cells #[.int .i64 x.id, .string x.client, .int .i64 x.sent, .slice B x.items.length cb, .slice D x.kept.length cd, .int .i64 x.back] 34) := ⟨_, rfl⟩
            have B3 : Hid (Below wr.heap.size wr W3) := Lib.hid (by rw [hW3]; exact (Below.refl _ _).alloc (Nat.le_refl _) _)
            have Y3 : Hid (Blk W3 wr.heap.size [.int .i64 x.id, .string x.client, .int .i64 x.sent, .slice B x.items.length cb, .slice D x.kept.length cd, .int .i64 x.back]) := Lib.hid (by rw [hW3]; exact Blk.new _ _ _)
            have HBR := Lib.hid (hb.trans (B3.out.mono hb.size))
            have HO3 := Lib.hid (own_below HO.out B3.out)
            have HW3 := Lib.hid hW3
            obtain ⟨hg, -, c0, c1, c2, c3, c4, c5, -, -, -, -, -, -⟩ := hrow
            clear hxk hone hbk hW3
            cases p1 : outB x day with
            | false =>
              rw [p1] at CO
              have HS := Lib.hid (show odP xs day most (k + 1) = odP xs day most k by rw [HST.out, odStep, if_neg (fun h => by rw [p1] at h; exact absurd h.1 (by simp))]; exact List.append_nil _)
              go_wp2_with fail
              rw [← HW3.out]
              have y0 := Y3.out.cell 0 _ rfl
              have y2 := Y3.out.cell 2 _ rfl
              have hy := Y3.out.lt
              clear c0 c1 c2 c3 c4 c5
              refine (CO.out _).mono ?_
              rintro e w4 ⟨rfl, b4⟩
              have HB4 := Lib.hid (HBR.out.trans (b4.mono HBR.out.size))
              have HO4 := Lib.hid (own_below HO3.out b4)
              have z0 := (Y3.out.below b4 hy).cell 0 _ rfl
              have z2 := (Y3.out.below b4 hy).cell 2 _ rfl
              have hs4 := HB4.out.size
              have hy4 := (Y3.out.below b4 hy).lt
              clear b4 y0 y2
              go_wp2
              go_roundw
              case rel => exact ⟨k + 1, by omega, by go_num, by rw [HS.out]; exact HO4.out, HB4.out⟩
              case measure => simp [intOf]; omega
            | true =>
              rw [p1] at CO
              by_cases q1 : most < day - x.sent
              · have f1 : decide (most < day - x.sent) = true := by simpa using q1
                have HS := Lib.hid (show odP xs day most (k + 1) = odP xs day most k ++ [x.id] by rw [HST.out, odStep, if_pos ⟨p1, q1⟩])
                clear q1
                go_wp2_with fail
                rw [← HW3.out]
                have y0 := Y3.out.cell 0 _ rfl
                have y2 := Y3.out.cell 2 _ rfl
                have hy := Y3.out.lt
                clear c0 c1 c2 c3 c4 c5
                refine (CO.out _).mono ?_
                rintro e w4 ⟨rfl, b4⟩
                have HB4 := Lib.hid (HBR.out.trans (b4.mono HBR.out.size))
                have HO4 := Lib.hid (own_below HO3.out b4)
                have z0 := (Y3.out.below b4 hy).cell 0 _ rfl
                have z2 := (Y3.out.below b4 hy).cell 2 _ rfl
                have hs4 := HB4.out.size
                have hy4 := (Y3.out.below b4 hy).lt
                clear b4 y0 y2
                have HO5 := Lib.hid (fun q => own_below HO4.out ((Below.refl _ _).alloc (Nat.le_refl _) q))
                go_wp2_with (at_builtin; go_must (refine wpList_app _ rfl (.tmp 41) (.tmp 44) 27 rfl w.heap.size 3 _ 1 8 Tryd.underlying27 infoI rfl (by omega) _ _ _ rfl (HO5.out _) _ 1 1 [.int .i64 x.id] rfl rfl (rd_new #[.int .i64 x.id] 3 (by simp)) (oneCell_ints [x.id]) (by unfold maxLen; omega) (by omega) (by simp; omega) ?_); intro v' w' o' g' d'; have hb' := Lib.hid ((HB4.out.alloc HB4.out.size _).trans (below_app (HO5.out _) g' (by simp; omega) (Nat.le_refl _))); clear g' d')
                have HO6 := Lib.hid o'
                clear o'
                go_roundw
                case rel => exact ⟨k + 1, by omega, by go_num, by rw [HS.out, cells1_append, List.length_append]; exact HO6.out, hb'.out⟩
                case measure => simp [intOf]; omega
              · have f1 : decide (most < day - x.sent) = false := by simpa using q1
                have HS := Lib.hid (show odP xs day most (k + 1) = odP xs day most k by rw [HST.out, odStep, if_neg (fun h => q1 h.2)]; exact List.append_nil _)
                clear q1
                go_wp2_with fail
                rw [← HW3.out]
                have y0 := Y3.out.cell 0 _ rfl
                have y2 := Y3.out.cell 2 _ rfl
                have hy := Y3.out.lt
                clear c0 c1 c2 c3 c4 c5
                refine (CO.out _).mono ?_
                rintro e w4 ⟨rfl, b4⟩
                have HB4 := Lib.hid (HBR.out.trans (b4.mono HBR.out.size))
                have HO4 := Lib.hid (own_below HO3.out b4)
                have z0 := (Y3.out.below b4 hy).cell 0 _ rfl
                have z2 := (Y3.out.below b4 hy).cell 2 _ rfl
                have hs4 := HB4.out.size
                have hy4 := (Y3.out.below b4 hy).lt
                clear b4 y0 y2
                go_wp2
                go_roundw
                case rel => exact ⟨k + 1, by omega, by go_num, by rw [HS.out]; exact HO4.out, HB4.out⟩
                case measure => simp [intOf]; omega
          · have hd : decide (k < n) = false := by simpa using hlt
            go_wp2
            go_ret2
            have hkn : k = xs.length := by have := HN.out; omega
            have e0 : V = odP xs day most k := by rw [HV.out, odV, if_pos HT.out, hkn]
            rw [show Q = true by rw [HQ.out, HT.out], e0]
            exact ⟨_, rfl, HO.out, hb⟩

end Go.Proofs.YtehohkdipfphmaaDoor
