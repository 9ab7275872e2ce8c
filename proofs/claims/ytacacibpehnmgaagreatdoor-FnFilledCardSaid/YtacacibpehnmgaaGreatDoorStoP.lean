/- Stock book: FillBook of the program. -/
import Derived.Test.YtacacibpehnmgaaGreatDoorStoO
namespace Go.Proofs.YtacacibpehnmgaaGreatDoor
set_option linter.unusedVariables false
set_option linter.unusedSimpArgs false
open Go.RowKit

theorem fillWd_any (x : Int) (w : World) : Calls Tryz.prog 32 #[.int .i64 x] w (RetS (.bool (!wdB x)) w) := by
  have C := Lib.hid (fun w => isWidth_any x w)
  cases hv : wdB x with
  | false =>
    rw [hv] at C
    clear hv
    go_enter Tryz.func32, Tryz.ntmps32
    go_wp2_with fail
    refine (C.out _).mono ?_
    rintro e w1 ⟨rfl, rfl⟩
    go_wp2
    go_ret
    exact ⟨rfl, rfl⟩
  | true =>
    rw [hv] at C
    clear hv
    go_enter Tryz.func32, Tryz.ntmps32
    go_wp2_with fail
    refine (C.out _).mono ?_
    rintro e w1 ⟨rfl, rfl⟩
    go_wp2
    go_ret
    exact ⟨rfl, rfl⟩

set_option maxHeartbeats 1000000 in
theorem fillIndexFunc_any (A : Option Addr) (n c : Nat) (xs : List Int) (w : World) (hn : xs.length = n) (hA : Rd w A (cells1 xs)) (h20 : n ≤ 1048577) :
    Calls Tryz.prog 58 #[.slice A n c, .func (.func 32) #[] #[]] w (RetS (.int .i64 (idxV (fun x => !wdB x) xs)) w) := by
  go_enter Tryz.func58, Tryz.ntmps58
  go_wp2_with fail
  go_loopw [8, 4, 5] (fun i r _ wr => ∃ (k : Nat), k ≤ n ∧ i = .int .i64 k ∧ r = .int .i64 0 ∧ (∀ (j : Nat) (y : Int), j < k → xs[j]? = some y → (!wdB y) = false) ∧ w = wr) (fun i _ _ _ => n - (intOf i).toNat)
  case atStart => exact ⟨0, by omega, rfl, rfl, fun j y hj => by omega, rfl⟩
  case round =>
    obtain ⟨k, hk, rfl, rfl, hrel, rfl⟩ := hrel
    have HR := Lib.hid hrel
    clear hrel
    by_cases hlt : k < n
    · obtain ⟨x, hxk⟩ : ∃ x, xs[k]? = some x := ⟨xs[k], List.getElem?_eq_getElem (by omega)⟩
      obtain ⟨g, o, hAe, hg, c0⟩ := hA.at1 hxk
      subst hAe
      have HX := Lib.hid hxk
      clear hxk hA
      go_wp2_with fail
      refine (fillWd_any x _).mono ?_
      rintro e w1 ⟨rfl, rfl⟩
      obtain ⟨q, hq⟩ : ∃ q, q = !wdB x := ⟨_, rfl⟩
      rw [← hq]
      have HQ := Lib.hid hq
      clear hq
      cases q with
      | true =>
        go_wp2
        go_ret
        exact ⟨ret_int (idxV_hit HR.out HX.out HQ.out.symm).symm, rfl⟩
      | false =>
        go_wp2
        go_roundw
        case rel =>
          refine ⟨k + 1, by omega, by go_num, rfl, fun j y hj hy => ?_, trivial⟩
          rcases Nat.lt_or_ge j k with h | h
          · exact HR.out j y h hy
          · have : j = k := by omega
            subst this; rw [HX.out] at hy; injection hy with hy; subst hy; exact HQ.out.symm
        case measure => simp [intOf]; omega
    · go_wp2
      go_ret
      exact ⟨ret_int (idxV_miss (fun j y hy => HR.out j y (by have := (List.getElem?_eq_some_iff.1 hy).1; omega) hy)).symm, rfl⟩
theorem fillContainsFunc_any (A : Option Addr) (n c : Nat) (xs : List Int) (w : World) (hn : xs.length = n) (hA : Rd w A (cells1 xs)) (h20 : n ≤ 1048577) :
    Calls Tryz.prog 31 #[.slice A n c, .func (.func 32) #[] #[]] w (RetS (.bool (!xs.all wdB)) w) := by
  have HV := Lib.hid (show decide (0 ≤ idxV (fun x => !wdB x) xs) = !xs.all wdB by rw [idxV_any, List.not_all_eq_any_not])
  go_enter Tryz.func31, Tryz.ntmps31
  go_wp2_with fail
  refine (fillIndexFunc_any A n c xs _ hn hA h20).mono ?_
  rintro e w1 ⟨rfl, rfl⟩
  go_wp2
  go_ret
  exact ⟨ret_bool HV.out, rfl⟩


theorem fb_hitApp {W wr w3 w4 : World} {E EI k m g n cap : Nat} {xs : List BR} {ws : List Int} {z : Int} {x : BR} {u u' v1 : Value} {vs : List Value} (ow : OwnB wr W.heap.size E EI (.slice (some ⟨g, 0, none⟩) n cap) (fbS xs ws k).1 vs) (o1 : wr.ownsRow W.heap.size EI 1 v1 (fbS xs ws k).2.length (cells1 (fbS xs ws k).2))
    (hap : ∀ (j : Nat) (a : Value) (q : Nat), (.slice (some ⟨g, 0, none⟩) n cap :: vs)[j]? = some a → a.ownBlock = some q → v1.ownBlock = some q → False) (hB : Below W.heap.size W wr) (hn : (fbS xs ws k).1.length = n)
    (hz : ws[k]? = some z) (ht : tightV (fbS xs ws k).1 z = m) (hx : (fbS xs ws k).1[m]? = some x) (hu : vs[m]? = some u) (hb : Below wr.heap.size wr w3)
    (o' : w4.ownsRow W.heap.size EI 1 u' (x.ws.length + 1) (cells1 (x.ws ++ [z]))) (g' : w3.grownBy w4 u.ownBlock) (d' : u'.ownBlock = u.ownBlock ∨ u'.ownBlock = some w3.heap.size) :
    FbRel W E EI xs ws (k + 1) (.slice (some ⟨g, 0, none⟩) n cap) v1 (w4.setCell ⟨g, m * 2 + 1, none⟩ u') := by
  have hs := hb.size
  have hs2 := hB.size
  have hml : m < vs.length := (List.getElem?_eq_some_iff.1 hu).1
  have h0 := (ow.below hb).setSlice hn hx hu (ws := x.ws ++ [z]) (u' := u') (by simpa using o') g' (fun q hq => by
    rcases d' with d | d
    · exact .inl (d.symm.trans hq)
    · right; rw [d] at hq; injection hq with hq; omega)
  have hgl := (ow.lt 0 _ g rfl rfl)
  have hw9 : Only (fun q => q = g) w4 (w4.setCell ⟨g, m * 2 + 1, none⟩ u') := ⟨rfl, rfl, rfl, by simp, fun q _ hq => Below.heap_setCell _ ⟨g, m * 2 + 1, none⟩ _ q hq⟩
  have hv1 : v1.ownBlock = none ∨ v1.ownBlock ≠ u.ownBlock := by
    cases e : v1.ownBlock with
    | none => exact .inl rfl
    | some q => exact .inr fun e2 => hap (m + 1) u q (by simpa using hu) e2.symm e
  unfold FbRel
  rw [fbS_yes hz ht hx]
  refine ⟨vs.set m u', ?_, own_only ((own_below o1 hb).kept g' hv1) hw9 (fun q hq e => hap 0 _ g rfl rfl (by rw [hq, e])), fun j a q ha hq hk => ?_, ((hB.trans (hb.mono hs2)).grown g' (Nat.le_trans hs2 hs) (fun q hq => ?_)).setCell (by show W.heap.size ≤ g; exact hgl.1) _⟩
  · show OwnB _ _ _ _ _ (withV (fbS xs ws k).1 m (x.ws ++ [z])) _
    rw [withV_at hx]; exact h0
  · cases j with
    | zero => exact hap 0 a q (by simpa using ha) hq hk
    | succ j =>
      simp only [List.getElem?_cons_succ] at ha
      by_cases e : m = j
      · subst e
        rw [List.getElem?_set_self hml] at ha; injection ha with ha; subst ha
        rcases d' with d | d
        · exact hap (m + 1) u q (by simpa using hu) (d.symm.trans hq) hk
        · rw [d] at hq; injection hq with hq
          have := (o1.lt q hk).2; omega
      · rw [List.getElem?_set_ne e] at ha
        exact hap (j + 1) a q (by simpa using ha) hq hk
  · have := (ow.lt (m + 1) u q (by simpa using hu) hq).1; exact this

set_option maxRecDepth 20000 in
set_option maxHeartbeats 4000000 in
theorem implFillBook_any (A : Option Addr) (n c : Nat) (xs : List BR) (A1 : Option Addr) (m c1 : Nat) (ws : List Int) (w : World) (hn : xs.length = n) (hA : RdB w A xs) (h20 : n ≤ 1048576) (hw : ∀ x ∈ xs, x.ws.length ≤ 1048576)
    (hm : ws.length = m) (hA1 : Rd w A1 (cells1 ws)) (hm20 : m ≤ 1048576) :
    Calls Tryz.prog 6 #[.slice A n c, .slice A1 m c1] w (RetBSB 34 3 (fbV xs ws) (fbN xs ws) (fbB xs ws) w) := by
  have C0 := Lib.hid (fun w h => isStockBook_any A n c xs w hn h (by omega) (hw1 hw))
  have C1 := Lib.hid (fun w h => fillContainsFunc_any A1 m c1 ws w hm h (by omega))
  have HA := Lib.hid hA
  have HA1 := Lib.hid hA1
  have HM := Lib.hid hm
  cases hv : bookB xs with
  | false =>
    rw [hv] at C0
    have hB : fbB xs ws = false := by simp [fbB, hv]
    rw [fbV, fbN, hB]
    clear hv hB hn hw hA hA1 hm
    go_enter Tryz.func6, Tryz.ntmps6
    go_wp2_with fail
    refine (C0.out _ HA.out).mono ?_
    rintro e w1 ⟨rfl, b1⟩
    go_wp2
    refine bodyPost_ret (v := .tuple #[.slice none 0 0, .slice none 0 0, .bool false]) (by simp [results, Tryz.results6, go_sem]) rfl ?_
    exact ⟨_, [], _, rfl, ownB_nil _ _ _ _, World.ownsRow_nil _ _ _ _, fun j a q ha hq hk => by simp [Value.ownBlock] at hk, b1⟩
  | true =>
    rw [hv] at C0
    by_cases hl : m ≤ 20
    · have hd : decide ((20 : Int) < (m : Int)) = false := by simp; omega
      have HB := Lib.hid (show fbB xs ws = ws.all wdB by simp [fbB, hv]; omega)
      cases hall : ws.all wdB with
      | false =>
        rw [hall] at C1 HB
        rw [fbV, fbN, HB.out]
        clear hv hn hw hA hA1 hm hall
        go_enter Tryz.func6, Tryz.ntmps6
        go_wp2_with fail
        refine (C0.out _ HA.out).mono ?_
        rintro e w1 ⟨rfl, b1⟩
        go_wp2_with fail
        refine (C1.out _ (HA1.out.below b1)).mono ?_
        rintro e w2 ⟨rfl, rfl⟩
        go_wp2
        refine bodyPost_ret (v := .tuple #[.slice none 0 0, .slice none 0 0, .bool false]) (by simp [results, Tryz.results6, go_sem]) rfl ?_
        exact ⟨_, [], _, rfl, ownB_nil _ _ _ _, World.ownsRow_nil _ _ _ _, fun j a q ha hq hk => by simp [Value.ownBlock] at hk, b1⟩
      | true =>
        rw [hall] at C1 HB
        have C4 := Lib.hid (fun w h => copyBook_any A n c xs w hn h h20 hw)
        have HR := Lib.hid (bookB_rows hv)
        have HN := Lib.hid hn
        have hl8 := (bookB_yes hv).2
        clear hv hn hw hA hA1 hm hall
        go_enter Tryz.func6, Tryz.ntmps6
        go_wp2_with fail
        refine (C0.out _ HA.out).mono ?_
        rintro e w1 ⟨rfl, b1⟩
        have hs1 := b1.size
        go_wp2_with fail
        refine (C1.out _ (HA1.out.below b1)).mono ?_
        rintro e w2 ⟨rfl, rfl⟩
        go_wp2_with fail
        refine (C4.out _ (HA.out.below b1)).mono ?_
        rintro e w2 ⟨v, vs, rfl, ow, b2⟩
        obtain ⟨Av, cv, rfl⟩ := own_form ow.2.1
        have HREL : Hid (FbRel w 34 3 xs ws 0 (.slice Av xs.length cv) (.slice none 0 0) w2) := Lib.hid ⟨vs, ow.mono hs1, World.ownsRow_nil _ _ _ _, fun j a q ha hq hk => by simp [Value.ownBlock] at hk, b1.trans (b2.mono hs1)⟩
        clear ow b2 b1
        go_wp2_with fail
        go_loopw [8, 28, 9, 10, 11] (fun v1 i _ _ _ wr => ∃ k : Nat, k ≤ m ∧ i = .int .i64 k ∧ FbRel w 34 3 xs ws k (.slice Av xs.length cv) v1 wr) (fun _ i _ _ _ _ => m - (intOf i).toNat)
        case atStart => exact ⟨0, Nat.zero_le _, rfl, HREL.out⟩
        case round =>
          obtain ⟨k, hk, rfl, hrel⟩ := hrel
          have HRL := Lib.hid hrel
          obtain ⟨vs', ow, o1, hap, hb⟩ := hrel
          have hs := hb.size
          obtain ⟨i1, i2, i3⟩ := fbS_inv (ws := ws) HR.out k
          by_cases hlt : k < m
          · obtain ⟨z, hzk⟩ : ∃ z, ws[k]? = some z := ⟨ws[k]'(by have := HM.out; omega), List.getElem?_eq_getElem _⟩
            obtain ⟨gw, og, rfl, hgw, e0⟩ := (HA1.out.below hb).at1 hzk
            have HZ := Lib.hid hzk
            have hnl : xs.length ≤ 1048576 := by omega
            have C5 := Lib.hid (fun w h => tightStrip_any Av xs.length cv (fbS xs ws k).1 z w i2 h hnl i1)
            obtain ⟨t, ht⟩ : ∃ t, t = tightV (fbS xs ws k).1 z := ⟨_, rfl⟩
            rw [← ht] at C5
            have HOW := Lib.hid ow
            have HO1 := Lib.hid o1
            have HAP := Lib.hid hap
            have I1 := Lib.hid i1
            have I2 := Lib.hid i2
            have HT := Lib.hid ht
            clear ow o1 hap i1 i2 ht hzk hnl
            go_wp2_with fail
            refine (C5.out _ HOW.out.rd2).mono ?_
            rintro e w3 ⟨rfl, b3⟩
            have hs3 := b3.size
            by_cases ht0 : t < 0
            · have hd2 : decide (0 ≤ t) = false := by simpa using ht0
              have HT0 := Lib.hid (show tightV (fbS xs ws k).1 z < 0 by have := HT.out; omega)
              have hrow := fun q => own_below HO1.out (b3.alloc hs3 q)
              have HROW := Lib.hid hrow
              clear hrow
              go_wp2_with (at_builtin; go_must (refine wpList_app _ rfl (.tmp 50) (.tmp 52) 25 rfl w.heap.size 3 _ 1 8 Tryz.underlying25 infoI rfl (by omega) _ _ _ rfl (HROW.out _) _ 1 1 [.int .i64 (k : Int)] rfl rfl (rd_new #[.int .i64 (k : Int)] 3 (by simp)) (oneCell_ints [(k : Int)]) (by unfold maxLen; omega) (by omega) (by simp; omega) ?_); intro v' w' o' g' d')
              have HF := Lib.hid (HRL.out.miss HZ.out HT0.out (b3.alloc hs3 _) o' g' d')
              clear o' g' d' HROW b3
              go_roundw
              case rel => exact ⟨k + 1, by omega, by go_num, HF.out⟩
              case measure => simp [intOf]; omega
            · obtain ⟨q, x, hq, hql, hx, hrm⟩ := tight_at (xs := (fbS xs ws k).1) (z := z) (by have := HT.out; omega)
              obtain rfl : t = (q : Int) := by rw [HT.out, hq]
              have hd2 : decide (0 ≤ (q : Int)) = true := by simp
              have hlx := (rowB_yes (I1.out x (List.mem_of_getElem? hx))).2.1
              have HX := Lib.hid hx
              have HQ := Lib.hid hq
              have ow3 := HOW.out.below b3
              have hrw := ow3.2.1
              rw [I2.out] at hrw
              have hqx : q < xs.length := by have := I2.out; omega
              obtain ⟨gg, rfl⟩ := own_somei hrw (by omega)
              obtain ⟨u, hu⟩ : ∃ u, vs'[q]? = some u := ⟨vs'[q]'(by have := ow3.1; omega), List.getElem?_eq_getElem _⟩
              have hui := ow3.2.2.1 q x u hx hu
              obtain ⟨Au, cu, rfl⟩ := own_form hui
              have eu : w3.cell? ⟨gg, q * 2 + 1, none⟩ = some (.slice Au x.ws.length cu) := by rw [hrw.cellAt _ (by omega)]; exact (cellsB_get hx hu).2
              have hgg : w.heap.size ≤ gg ∧ gg < w3.heap.size := ow3.lt 0 _ gg rfl rfl
              have hrow := fun q => own_below hui ((Below.refl _ _).alloc (Nat.le_refl _) q)
              have hr3 := fun q => own_below hrw ((Below.refl w3.heap.size w3).alloc (Nat.le_refl _) q)
              have hne := ow3.2.2.2.ne (i := 0) (j := q + 1) (by omega) rfl (by simpa using hu)
              have HROW := Lib.hid hrow
              have HR3 := Lib.hid hr3
              have HNE := Lib.hid hne
              have HU := Lib.hid hu
              have B3 := Lib.hid b3
              have hqn : q < (fbS xs ws k).1.length := hql
              clear hq hql hx hrm b3 e0 ow3 hu hui hrow hr3 hne hrw
              go_wp2_with (at_builtin; go_must (refine wpList_app _ rfl (.tmp 44) (.tmp 46) 25 rfl w.heap.size 3 _ 1 8 Tryz.underlying25 infoI rfl (by omega) _ _ _ rfl (HROW.out _) _ 1 1 [.int .i64 z] rfl rfl (rd_new #[.int .i64 z] 3 (by simp)) (oneCell_ints [z]) (by unfold maxLen; omega) (by omega) (by simp; omega) ?_); intro v' w' o' g' d'; obtain ⟨A5, c5, rfl⟩ := own_form o'; have hr5 := (HR3.out _).kept g' HNE.out; obtain ⟨z5, y5⟩ : ∃ z, w'.cell? ⟨gg, q * 2 + 1, none⟩ = some z := ⟨_, (hr5.cellAt (q * 2 + 1) (by omega)).trans (List.getElem?_eq_getElem (by rw [hr5.1]; omega))⟩; have f5 := hr5.frozenAt (q * 2 + 1); have DD := Lib.hid d'; have GG := Lib.hid g'; have OO := Lib.hid o'; clear hr5 d' g' o')
              have o' := OO.out
              have g' := GG.out
              have d' := DD.out
              rw [cells1_snoc] at o'
              have HF := Lib.hid (fb_hitApp HOW.out HO1.out HAP.out hb I2.out HZ.out HQ.out HX.out HU.out (B3.out.alloc hs3 _) o' g' d')
              clear o' g' d' OO GG DD HROW HR3 HNE eu
              go_roundw
              case rel => exact ⟨k + 1, by omega, by go_num, HF.out⟩
              case measure => simp [intOf]; omega
          · have hkm : k = ws.length := by have := HM.out; omega
            have HKM := Lib.hid hkm
            clear hkm ow o1 hap i1 i2 i3
            go_wp2
            obtain ⟨vs9, ow9, o19, hap9, hb9⟩ := HRL.out
            refine bodyPost_ret (by simp [results, Tryz.results6, go_sem]; rfl) rfl ?_
            refine ⟨_, vs9, _, by rw [HB.out], ?_, ?_, hap9, hb9⟩
            · rw [fbV, HB.out, if_pos rfl, ← HKM.out]; exact ow9
            · rw [fbN, HB.out, if_pos rfl, ← HKM.out]; exact o19
    · have hd : decide ((20 : Int) < (m : Int)) = true := by simp; omega
      have hB : fbB xs ws = false := by simp [fbB, hv]; intro; omega
      rw [fbV, fbN, hB]
      clear hv hB hn hw hA hA1 hm
      go_enter Tryz.func6, Tryz.ntmps6
      go_wp2_with fail
      refine (C0.out _ HA.out).mono ?_
      rintro e w1 ⟨rfl, b1⟩
      go_wp2
      refine bodyPost_ret (v := .tuple #[.slice none 0 0, .slice none 0 0, .bool false]) (by simp [results, Tryz.results6, go_sem]) rfl ?_
      exact ⟨_, [], _, rfl, ownB_nil _ _ _ _, World.ownsRow_nil _ _ _ _, fun j a q ha hq hk => by simp [Value.ownBlock] at hk, b1⟩
end Go.Proofs.YtacacibpehnmgaaGreatDoor
