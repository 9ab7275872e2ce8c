/- Approvals: UnsoldItems. -/
import Derived.Test.YtehohkdipfphmaaDoorAppZ
namespace Go.Proofs.YtehohkdipfphmaaDoor
set_option linter.unusedVariables false
set_option linter.unusedSimpArgs false
open Go.RowKit Go.Lib

/-- Whether someone has kept an item. -/
def unQ (xs : List AR) (z : Int) : Bool := xs.any (fun y => hasB y.kept z)
def unF (xs : List AR) (x : AR) : List Int := x.items.filter (fun z => !unQ xs z)
noncomputable def unB (xs : List AR) : Bool := goodA xs
noncomputable def unV (xs : List AR) : List Int := if unB xs = true then putAll (catP (unF xs) xs xs.length) else []
theorem un_ok {xs : List AR} (h : goodA xs = true) : okF (unF xs) xs := okF_filter (goodA_ones h) (fun z => !unQ xs z)
theorem unV_len (xs : List AR) : (unV xs).length ≤ 1048576 := by
  unfold unV
  split
  · rename_i h
    have := put_len (catP_bd (un_ok h) xs.length)
    omega
  · simp
theorem filt_step {zs : List Int} {m : Nat} {z : Int} (p : Int → Bool) (h : zs[m]? = some z) : (zs.take (m + 1)).filter p = (zs.take m).filter p ++ (if p z = true then [z] else []) := by
  rw [List.take_add_one, h, List.filter_append]
  congr 1
  simp only [Option.toList_some, List.filter_cons, List.filter_nil]
theorem any_step {xs : List AR} {q : Nat} {y : AR} (p : AR → Bool) (h : xs[q]? = some y) : (xs.take (q + 1)).any p = ((xs.take q).any p || p y) := by
  rw [List.take_add_one, h, List.any_append]; simp
theorem idxV_any {α : Type} (p : α → Bool) (xs : List α) : decide (0 ≤ idxV p xs) = xs.any p := by
  rcases idxV_cases p xs with ⟨h, hn⟩ | ⟨k, x, h, hx, hp, -⟩
  · rw [h]
    have : xs.any p = false := by rw [List.any_eq_false]; exact fun x hx => by rw [hn x hx]; simp
    rw [this]; rfl
  · rw [h]
    have : xs.any p = true := by rw [List.any_eq_true]; exact ⟨x, List.mem_of_getElem? hx, hp⟩
    rw [this]; simp

/-! ### The program's closure, and what calls it -/
set_option maxHeartbeats 1000000 in
theorem unK_any (x : AR) (B : Option Addr) (c : Nat) (D : Option Addr) (d : Nat) (z : Int) (b : Nat) (w : World) (hb : w.cell? ⟨b, 0, none⟩ = some (.int .i64 z)) (hD : Rd w D (cells1 x.kept)) (h20 : x.kept.length ≤ 1048576) :
    Calls Tryd.prog 32 #[.agg #[.int .i64 x.id, .string x.client, .int .i64 x.sent, .slice B x.items.length c, .slice D x.kept.length d, .int .i64 x.back], .pointer (some ⟨b, 0, none⟩)] w (Ret (.bool (hasB x.kept z)) w) := by
  have hlt := World.block_lt_of_cell? w _ hb
  have HD := Lib.hid hD
  clear hD
  go_enter Tryd.func32, Tryd.ntmps32
  go_wp2_with fail
  refine (containsInt_any D _ d x.kept z _ rfl (HD.out.alloc _) h20).mono ?_
  rintro e w1 ⟨rfl, rfl⟩
  go_wp2
  go_ret
  exact ⟨ret_bool rfl, (Below.refl _ _).alloc (Nat.le_refl _) _⟩

set_option maxRecDepth 20000 in
set_option maxHeartbeats 2000000 in
theorem unIndex_any (A : Option Addr) (n c : Nat) (xs : List AR) (z : Int) (b : Nat) (w : World) (hn : xs.length = n) (hA : RdA w A xs) (h20 : n ≤ 1048577) (hw : ∀ x ∈ xs, smA x) (hb : w.cell? ⟨b, 0, none⟩ = some (.int .i64 z)) :
    Calls Tryd.prog 58 #[.slice A n c, .func (.func 32) #[] #[.pointer (some ⟨b, 0, none⟩)]] w (Ret (.int .i64 (idxV (fun y => hasB y.kept z) xs)) w) := by
  have hlt := World.block_lt_of_cell? w _ hb
  have HB := Lib.hid hb
  have HN := Lib.hid hn
  have HA := Lib.hid hA
  clear hb hn hA
  go_enter Tryd.func58, Tryd.ntmps58
  go_wp2_with fail
  go_loopw [8, 4, 5] (fun i r _ wr => ∃ (k : Nat), k ≤ n ∧ i = .int .i64 k ∧ r = .int .i64 0 ∧ (∀ (j : Nat) (y : AR), j < k → xs[j]? = some y → hasB y.kept z = false) ∧ Below w.heap.size w wr) (fun i _ _ _ => n - (intOf i).toNat)
  case atStart => exact ⟨0, by omega, rfl, rfl, fun j y hj => by omega, Below.refl _ _⟩
  case round =>
    obtain ⟨k, hk, rfl, rfl, hrel, hb⟩ := hrel
    have HR := Lib.hid hrel
    clear hrel
    by_cases hlt : k < n
    · obtain ⟨x, hxk⟩ : ∃ x, xs[k]? = some x := ⟨xs[k]'(by have := HN.out; omega), List.getElem?_eq_getElem _⟩
      obtain ⟨g, o, B, cc, D, cd, hAe, hrow⟩ := (HA.out.below hb).at hxk
      subst hAe
      have HX := Lib.hid hxk
      obtain ⟨-, -, hkl⟩ := hw x (List.mem_of_getElem? hxk)
      have HRD := Lib.hid hrow.rD
      obtain ⟨hg, -, c0, c1, c2, c3, c4, c5, -, -, -, -, -, -⟩ := hrow
      clear hxk
      go_wp2_with fail
      refine (unK_any x B cc D cd z b _ ((hb.cell (p := ⟨b, 0, none⟩) (by assumption)).trans HB.out) HRD.out hkl).mono ?_
      rintro e w1 ⟨rfl, b1⟩
      have hb1 : Below w.heap.size w w1 := hb.trans (b1.mono hb.size)
      obtain ⟨q, hq⟩ : ∃ q, q = hasB x.kept z := ⟨_, rfl⟩
      rw [← hq]
      have HQ := Lib.hid hq
      clear hq
      cases q with
      | true =>
        go_wp2
        go_ret
        exact ⟨ret_int (idxV_hit (p := fun (y : AR) => hasB y.kept z) HR.out HX.out HQ.out.symm).symm, hb1⟩
      | false =>
        go_wp2
        go_roundw
        case rel =>
          refine ⟨k + 1, by omega, by go_num, rfl, fun j y hj hy => ?_, hb1⟩
          rcases Nat.lt_or_ge j k with h | h
          · exact HR.out j y h hy
          · have : j = k := by omega
            subst this; rw [HX.out] at hy; injection hy with hy; subst hy; exact HQ.out.symm
        case measure => simp [intOf]; omega
    · go_wp2
      go_ret
      exact ⟨ret_int (idxV_miss (p := fun (y : AR) => hasB y.kept z) (fun j y hy => HR.out j y (by have := (List.getElem?_eq_some_iff.1 hy).1; have := HN.out; omega) hy)).symm, hb⟩

set_option maxHeartbeats 1000000 in
theorem unContains_any (A : Option Addr) (n c : Nat) (xs : List AR) (z : Int) (b : Nat) (w : World) (hn : xs.length = n) (hA : RdA w A xs) (h20 : n ≤ 1048577) (hw : ∀ x ∈ xs, smA x) (hb : w.cell? ⟨b, 0, none⟩ = some (.int .i64 z)) :
    Calls Tryd.prog 31 #[.slice A n c, .func (.func 32) #[] #[.pointer (some ⟨b, 0, none⟩)]] w (Ret (.bool (unQ xs z)) w) := by
  have C1 := Lib.hid (fun w h hb => unIndex_any A n c xs z b w hn h h20 hw hb)
  have HA := Lib.hid hA
  have HB := Lib.hid hb
  have HV := Lib.hid (idxV_any (fun y : AR => hasB y.kept z) xs)
  obtain ⟨q, hq⟩ : ∃ q, q = idxV (fun y : AR => hasB y.kept z) xs := ⟨_, rfl⟩
  rw [← hq] at C1 HV
  clear hA hb hq hn hw
  go_enter Tryd.func31, Tryd.ntmps31
  go_wp2_with fail
  refine (C1.out _ HA.out HB.out).mono ?_
  rintro e w1 ⟨rfl, b1⟩
  go_wp2
  go_ret
  exact ⟨ret_bool HV.out, b1⟩

set_option maxRecDepth 20000 in
set_option maxHeartbeats 4000000 in
theorem specUnsoldItems_any (A : Option Addr) (n c : Nat) (xs : List AR) (w : World) (hn : xs.length = n) (hA : RdA w A xs) (h20 : n ≤ 1048576) (hw : ∀ x ∈ xs, smA x) (hcap : n ≤ c ∧ c ≤ maxLen) :
    Calls Tryd.prog 10 #[.slice A n c] w (RetOwnB 3 1 (unV xs).length (cells1 (unV xs)) (unB xs) w) := by
  have C0 := Lib.hid (fun w h => l28Good_any A n c xs w hn h (by omega) hw)
  have HA := Lib.hid hA
  have HW := Lib.hid hw
  have HN := Lib.hid hn
  obtain ⟨V, hV⟩ : ∃ V, V = unV xs := ⟨_, rfl⟩
  obtain ⟨Q, hQ⟩ : ∃ Q, Q = unB xs := ⟨_, rfl⟩
  rw [← hV, ← hQ]
  have HV := Lib.hid hV
  have HQ := Lib.hid hQ
  clear hV hQ hn hA hw hcap
  cases h0 : goodA xs with
  | false =>
    have HF : Hid (unB xs = false) := Lib.hid h0
    rw [h0] at C0
    clear h0
    go_enter Tryd.func10, Tryd.ntmps10
    go_wp2_with fail
    refine (C0.out _ (HA.out.alloc _)).mono ?_
    rintro e w1 ⟨rfl, b1⟩
    have B1 := Lib.hid (((Below.refl w.heap.size w).alloc (Nat.le_refl _) (.cells #[] 3)).trans (b1.mono (by simp)))
    go_wp2
    go_ret2
    have e0 : V = [] := by rw [HV.out, unV, if_neg (by rw [HF.out]; simp)]
    subst e0
    rw [show Q = false by rw [HQ.out, HF.out]]
    exact ⟨_, rfl, own_below (own_empty w w.heap.size 3 1 (Nat.le_refl _)) b1, B1.out⟩
  | true =>
    rw [h0] at C0
    have HT : Hid (unB xs = true) := Lib.hid h0
    have HG := Lib.hid h0
    have hn12 : n ≤ 12 := by have := (goodA_yes h0).2; have := HN.out; omega
    have HOK := Lib.hid (un_ok h0)
    clear h0
    go_enter Tryd.func10, Tryd.ntmps10
    go_wp2_with fail
    refine (C0.out _ (HA.out.alloc _)).mono ?_
    rintro e w1 ⟨rfl, b1⟩
    have O1 := Lib.hid (own_below (own_empty w w.heap.size 3 1 (Nat.le_refl _)) b1)
    have B1 := Lib.hid (((Below.refl w.heap.size w).alloc (Nat.le_refl _) (.cells #[] 3)).trans (b1.mono (by simp)))
    clear b1
    go_wp2_with fail
    go_loopw [4, 5] (fun v i wr => ∃ k : Nat, k ≤ n ∧ i = .int .i64 k ∧ wr.ownsRow w.heap.size 3 1 v (putAll (catP (unF xs) xs k)).length (cells1 (putAll (catP (unF xs) xs k))) ∧ Below w.heap.size w wr) (fun _ i _ => n - (intOf i).toNat)
    case atStart => exact ⟨0, Nat.zero_le _, rfl, by simpa [catP, putAll, cells1] using O1.out, B1.out⟩
    case round =>
      obtain ⟨k, hk, rfl, ho, hb⟩ := hrel
      have hs := hb.size
      have HO := Lib.hid ho
      have HB := Lib.hid hb
      clear ho
      obtain ⟨L, hL⟩ : ∃ L, L = catP (unF xs) xs k := ⟨_, rfl⟩
      rw [← hL] at HO
      have HLB : Hid (∀ z ∈ L, 1 ≤ z ∧ z ≤ 999) := Lib.hid (by rw [hL]; exact catP_bd HOK.out k)
      have hLl : L.length ≤ 999 * 12 := by have := catP_len HOK.out k; rw [← hL] at this; omega
      have HL := Lib.hid hL
      clear hL
      by_cases hlt : k < n
      · obtain ⟨x, hxk⟩ : ∃ x, xs[k]? = some x := ⟨xs[k]'(by have := HN.out; omega), List.getElem?_eq_getElem _⟩
        obtain ⟨g, o, B, cb, D, cd, rfl, hrow0⟩ := HA.out.at hxk
        have HROW := Lib.hid hrow0
        have hone := goodA_ones HG.out x (List.mem_of_getElem? hxk)
        have HPB : Hid (∀ z ∈ x.items, 1 ≤ z ∧ z ≤ 999) := Lib.hid (one_items hone).2
        have hpl : x.items.length ≤ 999 := ss_999 (one_items hone).1 (one_items hone).2
        have HST := Lib.hid (catP_step (f := unF xs) hxk)
        rw [← HL.out] at HST
        obtain ⟨p, hp⟩ : ∃ p : Int → Bool, p = fun z => !unQ xs z := ⟨_, rfl⟩
        have HS : Hid (catP (unF xs) xs (k + 1) = L ++ x.items.filter p) := Lib.hid (by rw [HST.out, unF, hp])
        have HP : Hid (∀ z, p z = !unQ xs z) := Lib.hid (fun z => by rw [hp])
        clear hp
        obtain ⟨hg, -, c0, c1, c2, c3, c4, c5, -, -, -, -, -, -⟩ := hrow0.below hb
        clear hxk hone hrow0
        go_wp2_with fail
        go_loopw [4, 6] (fun v j wr => ∃ m : Nat, m ≤ x.items.length ∧ j = .int .i64 m ∧ wr.ownsRow w.heap.size 3 1 v (putAll (L ++ (x.items.take m).filter p)).length (cells1 (putAll (L ++ (x.items.take m).filter p))) ∧ Below w.heap.size w wr) (fun _ j _ => x.items.length - (intOf j).toNat)
        case atStart => exact ⟨0, Nat.zero_le _, rfl, by simpa using HO.out, HB.out⟩
        case round =>
          clear c0 c1 c2 c3 c4 c5 hg
          obtain ⟨m, hm, rfl, ho, hb2⟩ := hrel
          obtain ⟨hg, -, c0, c1, c2, c3, c4, c5, -, -, -, -, -, -⟩ := HROW.out.below hb2
          have HO2 := Lib.hid ho
          clear ho
          have hs2 := hb2.size
          by_cases hlm : m < x.items.length
          · obtain ⟨z, hzm⟩ : ∃ z, x.items[m]? = some z := ⟨x.items[m], List.getElem?_eq_getElem hlm⟩
            have HFS := Lib.hid (filt_step p hzm)
            have hpz : (putAll (L ++ (x.items.take m).filter p)).length ≤ 999 := put_len (fun z hz => by
              rcases List.mem_append.1 hz with h | h
              · exact HLB.out z h
              · exact HPB.out z (List.mem_of_mem_take (List.mem_filter.1 h).1))
            have HZM := Lib.hid hzm
            clear hzm
            go_wp2_with fail
            go_loopw [7, 8] (fun s t ww => ∃ (q : Nat) (b : Bool), q ≤ n ∧ t = .int .i64 q ∧ s = .bool b ∧ b = (xs.take q).any (fun y => hasB y.kept z) ∧ Below wr.heap.size wr ww) (fun _ t _ => n - (intOf t).toNat)
            case atStart => exact ⟨0, false, Nat.zero_le _, rfl, rfl, by simp, Below.refl _ _⟩
            case round =>
              clear c0 c1 c2 c3 c4 c5 hg
              obtain ⟨q, b, hq, rfl, rfl, hbv, hb3⟩ := hrel
              have HBV := Lib.hid hbv
              clear hbv
              have hb4 := hb2.trans (hb3.mono hb2.size)
              have hs4 := hb4.size
              have HO4 := Lib.hid (own_below HO2.out hb3)
              obtain ⟨hg, -, c0, c1, c2, c3, c4, c5, -, -, -, -, -, -⟩ := HROW.out.below hb4
              obtain ⟨g2, o2, hge, hg2, d0⟩ := (HROW.out.below hb4).rB.at1 HZM.out
              subst hge
              by_cases hqn : q < n
              · obtain ⟨y, hyq⟩ : ∃ y, xs[q]? = some y := ⟨xs[q]'(by have := HN.out; omega), List.getElem?_eq_getElem _⟩
                obtain ⟨g', o', B', cb', D', cd', hAe, hrowy⟩ := (HA.out.below hb4).at hyq
                injection hAe with hAe
                injection hAe with e1 e2
                subst e1; subst e2
                obtain ⟨-, -, hky⟩ := HW.out y (List.mem_of_getElem? hyq)
                have HAS := Lib.hid (any_step (fun y : AR => hasB y.kept z) hyq)
                have HRY := Lib.hid hrowy.rD
                have e4 := hrowy.c4
                have C1 := Lib.hid (fun w h => l1Has_any D' _ cd' y.kept z w rfl h hky)
                clear hyq hrowy
                cases b with
                | false =>
                  obtain ⟨h, hh⟩ : ∃ h, h = hasB y.kept z := ⟨_, rfl⟩
                  rw [← hh] at C1
                  have HN1 : Hid (h = (xs.take (q + 1)).any (fun y => hasB y.kept z)) := Lib.hid (by rw [HAS.out, ← HBV.out, hh]; simp)
                  clear hh
                  go_wp2_with fail
                  refine wp_region_lat wr.heap.size (by kernel_rfl) (by kernel_rfl) ?_
                  have LC := fun (u : Lat wr.heap.size wr) => u.cell
                  repeat (go_big_quiet_step ((go_at_call 35; (with_reducible exact lat_same _ (C1.out _ (HRY.out.below (Lat.below _)))))))
                  refine wpQuiet_nil ?_
                  intro w6 hw6
                  clear LC
                  have HB6 := Lib.hid (hb3.trans (hw6.mono hb3.size))
                  clear c0 c1 c2 c3 c4 c5 d0 e4 hw6
                  go_wp2
                  go_roundw
                  case rel => exact ⟨q + 1, h, by omega, by go_num, rfl, HN1.out, HB6.out⟩
                  case measure => simp [intOf]; omega
                | true =>
                  have HN1 : Hid (true = (xs.take (q + 1)).any (fun y => hasB y.kept z)) := Lib.hid (by rw [HAS.out, ← HBV.out]; rfl)
                  go_wp2_with fail
                  refine wp_region_lat wr.heap.size (by kernel_rfl) (by kernel_rfl) ?_
                  have LC := fun (u : Lat wr.heap.size wr) => u.cell
                  repeat (go_big_quiet_step ((go_at_call 35; (with_reducible exact lat_same _ (C1.out _ (HRY.out.below (Lat.below _)))))))
                  refine wpQuiet_nil ?_
                  intro w6 hw6
                  clear LC
                  have HB6 := Lib.hid (hb3.trans (hw6.mono hb3.size))
                  clear c0 c1 c2 c3 c4 c5 d0 e4 hw6
                  go_wp2
                  go_roundw
                  case rel => exact ⟨q + 1, true, by omega, by go_num, rfl, HN1.out, HB6.out⟩
                  case measure => simp [intOf]; omega
              · have hqe : q = xs.length := by have := HN.out; omega
                have hdq : decide (q < n) = false := by simpa using hqn
                have HUQ : Hid (b = unQ xs z) := Lib.hid (by rw [HBV.out, hqe, List.take_length]; rfl)
                clear hqe
                cases b with
                | false =>
                  have HPT : Hid (putAll (L ++ (x.items.take (m + 1)).filter p) = putV (putAll (L ++ (x.items.take m).filter p)) z) := Lib.hid (by rw [HFS.out, if_pos (by rw [HP.out, ← HUQ.out]; rfl), ← List.append_assoc, putAll_snoc])
                  go_wp2_with fail
                  refine (l1Put_any w.heap.size _ (putAll (L ++ (x.items.take m).filter p)) z _ HO4.out hs4 (by omega)).mono ?_
                  rintro e w5 ⟨v', rfl, o5, b5⟩
                  have HB5 := hb4.trans (b5.mono hb4.size)
                  have HO5 := Lib.hid o5
                  clear o5 b5 c0 c1 c2 c3 c4 c5 d0
                  go_wp2
                  go_roundw
                  case rel => exact ⟨m + 1, by omega, by go_num, by rw [HPT.out]; exact HO5.out, HB5⟩
                  case measure => simp [intOf]; omega
                | true =>
                  have HPT : Hid ((x.items.take (m + 1)).filter p = (x.items.take m).filter p) := Lib.hid (by rw [HFS.out, if_neg (by rw [HP.out, ← HUQ.out]; simp)]; exact List.append_nil _)
                  clear c0 c1 c2 c3 c4 c5 d0
                  go_wp2
                  go_roundw
                  case rel => exact ⟨m + 1, by omega, by go_num, by rw [HPT.out]; exact HO4.out, hb4⟩
                  case measure => simp [intOf]; omega
          · have hml : m = x.items.length := by omega
            have hdm : decide (m < x.items.length) = false := by simpa using hlm
            have HE := Lib.hid (show L ++ (x.items.take m).filter p = catP (unF xs) xs (k + 1) by rw [HS.out, hml, List.take_length])
            clear hml
            go_wp2
            go_roundw
            case rel => exact ⟨k + 1, by omega, by go_num, by rw [← HE.out]; exact HO2.out, hb2⟩
            case measure => simp [intOf]; omega
      · have hd : decide (k < n) = false := by simpa using hlt
        have hkn : k = xs.length := by have := HN.out; omega
        have HVE : Hid (V = putAll L) := Lib.hid (by rw [HV.out, unV, if_pos HT.out, HL.out, hkn])
        have HQE := Lib.hid (show Q = true by rw [HQ.out, HT.out])
        clear hkn
        go_wp2
        go_ret2
        rw [HQE.out, HVE.out]
        exact ⟨_, rfl, HO.out, HB.out⟩

set_option maxRecDepth 20000 in
set_option maxHeartbeats 4000000 in
theorem implUnsoldItems_any (A : Option Addr) (n c : Nat) (xs : List AR) (w : World) (hn : xs.length = n) (hA : RdA w A xs) (h20 : n ≤ 1048576) (hw : ∀ x ∈ xs, smA x) (hcap : n ≤ c ∧ c ≤ maxLen) :
    Calls Tryd.prog 9 #[.slice A n c] w (RetOwnB 3 1 (unV xs).length (cells1 (unV xs)) (unB xs) w) := by
  have C0 := Lib.hid (fun w h => areApprovals_any A n c xs w hn h (by omega) hw hcap)
  have HA := Lib.hid hA
  have HW := Lib.hid hw
  have HN := Lib.hid hn
  obtain ⟨V, hV⟩ : ∃ V, V = unV xs := ⟨_, rfl⟩
  obtain ⟨Q, hQ⟩ : ∃ Q, Q = unB xs := ⟨_, rfl⟩
  rw [← hV, ← hQ]
  have HV := Lib.hid hV
  have HQ := Lib.hid hQ
  clear hV hQ hn hA hw hcap
  cases h0 : goodA xs with
  | false =>
    have HF : Hid (unB xs = false) := Lib.hid h0
    rw [h0] at C0
    clear h0
    go_enter Tryd.func9, Tryd.ntmps9
    go_wp2_with fail
    refine (C0.out _ HA.out).mono ?_
    rintro e w1 ⟨rfl, b1⟩
    have B1 := Lib.hid b1
    go_wp2
    go_ret2
    have e0 : V = [] := by rw [HV.out, unV, if_neg (by rw [HF.out]; simp)]
    subst e0
    rw [show Q = false by rw [HQ.out, HF.out]]
    exact ⟨_, rfl, World.ownsRow_nil _ _ _ _, B1.out⟩
  | true =>
    rw [h0] at C0
    have HT : Hid (unB xs = true) := Lib.hid h0
    have HG := Lib.hid h0
    have hn12 : n ≤ 12 := by have := (goodA_yes h0).2; have := HN.out; omega
    have HOK := Lib.hid (un_ok h0)
    clear h0
    go_enter Tryd.func9, Tryd.ntmps9
    go_wp2_with fail
    refine (C0.out _ HA.out).mono ?_
    rintro e w1 ⟨rfl, b1⟩
    have B1 := Lib.hid b1
    clear b1
    go_wp2_with fail
    go_loopw [4, 14] (fun v i wr => ∃ k : Nat, k ≤ n ∧ i = .int .i64 k ∧ wr.ownsRow w.heap.size 3 1 v (catP (unF xs) xs k).length (cells1 (catP (unF xs) xs k)) ∧ Below w.heap.size w wr) (fun _ i _ => n - (intOf i).toNat)
    case atStart => exact ⟨0, Nat.zero_le _, rfl, by simpa [catP, putAll, cells1] using World.ownsRow_nil _ _ _ _, B1.out⟩
    case round =>
      obtain ⟨k, hk, rfl, ho, hb⟩ := hrel
      have hs := hb.size
      have HO := Lib.hid ho
      have HB := Lib.hid hb
      clear ho
      obtain ⟨L, hL⟩ : ∃ L, L = catP (unF xs) xs k := ⟨_, rfl⟩
      rw [← hL] at HO
      have HLB : Hid (∀ z ∈ L, 1 ≤ z ∧ z ≤ 999) := Lib.hid (by rw [hL]; exact catP_bd HOK.out k)
      have hLl : L.length ≤ 999 * 12 := by have := catP_len HOK.out k; rw [← hL] at this; omega
      have HL := Lib.hid hL
      clear hL
      by_cases hlt : k < n
      · obtain ⟨x, hxk⟩ : ∃ x, xs[k]? = some x := ⟨xs[k]'(by have := HN.out; omega), List.getElem?_eq_getElem _⟩
        obtain ⟨g, o, B, cb, D, cd, rfl, hrow0⟩ := HA.out.at hxk
        have HROW := Lib.hid hrow0
        have hone := goodA_ones HG.out x (List.mem_of_getElem? hxk)
        have HPB : Hid (∀ z ∈ x.items, 1 ≤ z ∧ z ≤ 999) := Lib.hid (one_items hone).2
        have hpl : x.items.length ≤ 999 := ss_999 (one_items hone).1 (one_items hone).2
        have HST := Lib.hid (catP_step (f := unF xs) hxk)
        rw [← HL.out] at HST
        obtain ⟨p, hp⟩ : ∃ p : Int → Bool, p = fun z => !unQ xs z := ⟨_, rfl⟩
        have HS : Hid (catP (unF xs) xs (k + 1) = L ++ x.items.filter p) := Lib.hid (by rw [HST.out, unF, hp])
        have HP : Hid (∀ z, p z = !unQ xs z) := Lib.hid (fun z => by rw [hp])
        clear hp
        obtain ⟨hg, -, c0, c1, c2, c3, c4, c5, -, -, -, -, -, -⟩ := hrow0.below hb
        clear hxk hone hrow0
        obtain ⟨W3, hW3⟩ : ∃ W3, W3 = wr.alloc (.cells #[.int .i64 x.id, .string x.client, .int .i64 x.sent, .slice B x.items.length cb, .slice D x.kept.length cd, .int .i64 x.back] 34) := ⟨_, rfl⟩
        have B3 : Hid (Below wr.heap.size wr W3) := Lib.hid (by rw [hW3]; exact (Below.refl _ _).alloc (Nat.le_refl _) _)
        have Y3 : Hid (Blk W3 wr.heap.size [.int .i64 x.id, .string x.client, .int .i64 x.sent, .slice B x.items.length cb, .slice D x.kept.length cd, .int .i64 x.back]) := Lib.hid (by rw [hW3]; exact Blk.new _ _ _)
        have HBR := Lib.hid (HB.out.trans (B3.out.mono hs))
        have HO3 := Lib.hid (own_below HO.out B3.out)
        have HW3 := Lib.hid hW3
        clear hW3
        have y3 := Y3.out.cell 3 _ rfl
        have hy := Y3.out.lt
        have hs3 := HBR.out.size
        rw [HW3.out] at y3 hy HO3 HBR hs3
        go_wp2_with fail
        go_loopw [4, 21] (fun v j wr => ∃ m : Nat, m ≤ x.items.length ∧ j = .int .i64 m ∧ wr.ownsRow w.heap.size 3 1 v (L ++ (x.items.take m).filter p).length (cells1 (L ++ (x.items.take m).filter p)) ∧ Below w.heap.size w wr) (fun _ j _ => x.items.length - (intOf j).toNat)
        case atStart => exact ⟨0, Nat.zero_le _, rfl, by simpa using HO3.out, HBR.out⟩
        case round =>
          clear c0 c1 c2 c3 c4 c5 hg y3 hy hs3
          obtain ⟨m, hm, rfl, ho, hb2⟩ := hrel
          have HO2 := Lib.hid ho
          clear ho
          have hs2 := hb2.size
          have hfl : ((x.items.take m).filter p).length ≤ 999 := (by have h1 := List.length_filter_le p (x.items.take m); have h2 := List.length_take_le' m x.items; omega)
          by_cases hlm : m < x.items.length
          · obtain ⟨z, hzm⟩ : ∃ z, x.items[m]? = some z := ⟨x.items[m], List.getElem?_eq_getElem hlm⟩
            have HFS := Lib.hid (filt_step p hzm)
            obtain ⟨g2, o2, hge, hg2, d0⟩ := (HROW.out.below hb2).rB.at1 hzm
            subst hge
            obtain ⟨W8, hW8⟩ : ∃ W8, W8 = wr.alloc (.cells #[.int .i64 z] 3) := ⟨_, rfl⟩
            have B8 : Hid (Below wr.heap.size wr W8) := Lib.hid (by rw [hW8]; exact (Below.refl _ _).alloc (Nat.le_refl _) _)
            have Y8 : Hid (Blk W8 wr.heap.size [.int .i64 z]) := Lib.hid (by rw [hW8]; exact Blk.new _ _ _)
            have HW8 := Lib.hid hW8
            clear hW8
            have HB8 := Lib.hid (hb2.trans (B8.out.mono hb2.size))
            have HO8 := Lib.hid (own_below HO2.out B8.out)
            have HA8 := Lib.hid (HA.out.below HB8.out)
            have CU := Lib.hid (fun w h hb => unContains_any (some ⟨g, o, none⟩) n c xs z wr.heap.size w HN.out h (by omega) HW.out hb)
            cases hq : unQ xs z with
            | false =>
              rw [hq] at CU
              have HF2 : Hid ((x.items.take (m + 1)).filter p = (x.items.take m).filter p ++ [z]) := Lib.hid (by rw [HFS.out, if_pos (by rw [HP.out, hq]; simp)])
              clear hq
              go_wp2_with fail
              rw [← HW8.out]
              refine (CU.out _ HA8.out (Y8.out.cell 0 _ rfl)).mono ?_
              rintro e w4 ⟨rfl, b4⟩
              have HB4 := Lib.hid (HB8.out.trans (b4.mono HB8.out.size))
              have HO4 := Lib.hid (own_below HO8.out b4)
              have hs4 := HB4.out.size
              have e0 := (Y8.out.below b4 Y8.out.lt).cell 0 _ rfl
              have he0 := (Y8.out.below b4 Y8.out.lt).lt
              clear b4 d0
              have HO5 := Lib.hid (fun q => own_below HO4.out ((Below.refl _ _).alloc (Nat.le_refl _) q))
              go_wp2_with (at_builtin; go_must (refine wpList_app _ rfl (.tmp 29) (.tmp 31) 27 rfl w.heap.size 3 _ 1 8 Tryd.underlying27 infoI rfl (by omega) _ _ _ rfl (HO5.out _) _ 1 1 [.int .i64 z] rfl rfl (rd_new #[.int .i64 z] 3 (by simp)) (oneCell_ints [z]) (by rw [List.length_append]; unfold maxLen; omega) (by rw [List.length_append]; omega) (by simp; omega) ?_); intro v' w' o' g' d'; have hb' := Lib.hid ((HB4.out.alloc HB4.out.size _).trans (below_app (HO5.out _) g' (by simp; omega) (Nat.le_refl _))); clear g' d')
              have HO6 := Lib.hid o'
              clear o'
              go_roundw
              case rel => exact ⟨m + 1, by omega, by go_num, by rw [HF2.out, ← List.append_assoc, cells1_append, List.length_append]; exact HO6.out, hb'.out⟩
              case measure => simp [intOf]; omega
            | true =>
              rw [hq] at CU
              have HF2 : Hid ((x.items.take (m + 1)).filter p = (x.items.take m).filter p) := Lib.hid (by rw [HFS.out, if_neg (by rw [HP.out, hq]; simp)]; exact List.append_nil _)
              clear hq
              go_wp2_with fail
              rw [← HW8.out]
              refine (CU.out _ HA8.out (Y8.out.cell 0 _ rfl)).mono ?_
              rintro e w4 ⟨rfl, b4⟩
              have HB4 := Lib.hid (HB8.out.trans (b4.mono HB8.out.size))
              have HO4 := Lib.hid (own_below HO8.out b4)
              have hs4 := HB4.out.size
              have e0 := (Y8.out.below b4 Y8.out.lt).cell 0 _ rfl
              have he0 := (Y8.out.below b4 Y8.out.lt).lt
              clear b4 d0
              go_wp2
              go_roundw
              case rel => exact ⟨m + 1, by omega, by go_num, by rw [HF2.out]; exact HO4.out, HB4.out⟩
              case measure => simp [intOf]; omega
          · have hml : m = x.items.length := by omega
            have hdm : decide (m < x.items.length) = false := by simpa using hlm
            have HE := Lib.hid (show L ++ (x.items.take m).filter p = catP (unF xs) xs (k + 1) by rw [HS.out, hml, List.take_length])
            clear hml
            go_wp2
            go_roundw
            case rel => exact ⟨k + 1, by omega, by go_num, by rw [← HE.out]; exact HO2.out, hb2⟩
            case measure => simp [intOf]; omega
      · have hd : decide (k < n) = false := by simpa using hlt
        have hkn : k = xs.length := by have := HN.out; omega
        have HVE : Hid (V = putAll L) := Lib.hid (by rw [HV.out, unV, if_pos HT.out, HL.out, hkn])
        have HQE := Lib.hid (show Q = true by rw [HQ.out, HT.out])
        clear hkn
        go_wp2_with fail
        refine (sortInt_any w.heap.size _ _ L _ HO.out rfl (by omega)).mono ?_
        rintro e w5 ⟨rfl, o5, g5⟩
        have HB5 := Lib.hid (HB.out.grown g5 HB.out.size (fun q hq => (HO.out.lt q hq).1))
        have HO5 := Lib.hid o5
        clear o5 g5
        go_wp2_with fail
        refine (compactInt_any w.heap.size _ _ (srt L) _ HO5.out (srt_len L) (by omega)).mono ?_
        rintro e w6 ⟨u, rfl, o6, g6, -⟩
        have HB6 := Lib.hid (HB5.out.grown g6 HB5.out.size (fun q hq => (HO5.out.lt q hq).1))
        rw [compact_srt] at o6
        have HO6 := Lib.hid o6
        clear o6 g6
        go_wp2
        go_ret2
        rw [HQE.out, HVE.out]
        exact ⟨_, rfl, HO6.out, HB6.out⟩

end Go.Proofs.YtehohkdipfphmaaDoor
