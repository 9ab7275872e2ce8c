/- Stock book: InsertStamp of the program. -/
import Derived.Test.YtacacibpehnmgaaStoM
import Derived.Test.YtacacibpehnmgaaStoL
import Derived.Test.YtacacibpehnmgaaInsI
namespace Go.Proofs.Ytacacibpehnmgaa
set_option linter.unusedVariables false
set_option linter.unusedSimpArgs false
open Go.RowKit

theorem bookB_set {xs : List BR} {k : Nat} {x : BR} (ws : List Int) (hv : bookB xs = true) (hx : xs[k]? = some x) : bookB (xs.set k ⟨x.id, ws⟩) = rowB ws := by
  have hk : k < xs.length := (List.getElem?_eq_some_iff.1 hx).1
  obtain ⟨ha, hl⟩ := bookB_yes hv
  cases hr : rowB ws with
  | false =>
    refine bookB_no (k := k) (by simp [hk]) (okA_no (List.getElem?_set_self hk) (strip_no2 hr))
  | true =>
    have hid := (bookB_row hv hx).1
    have h1 : ∀ (j : Nat) (y : BR), (xs.set k ⟨x.id, ws⟩)[j]? = some y → stripB y = true := fun j y hy => by
      by_cases e : k = j
      · subst e
        rw [List.getElem?_set_self hk] at hy; injection hy with hy; subst hy
        exact strip_yes (inR_true.2 hid) hr
      · rw [List.getElem?_set_ne e] at hy
        exact allA_at ha hy
    have hidd : ∀ (j : Nat) (y : BR), (xs.set k ⟨x.id, ws⟩)[j]? = some y → ∃ z, xs[j]? = some z ∧ z.id = y.id := fun j y hy => by
      by_cases e : k = j
      · subst e
        rw [List.getElem?_set_self hk] at hy; injection hy with hy; subst hy
        exact ⟨x, hx, rfl⟩
      · rw [List.getElem?_set_ne e] at hy
        exact ⟨y, hy, rfl⟩
    have h2 : ∀ (j : Nat) (y z : BR), (xs.set k ⟨x.id, ws⟩)[j + 1]? = some y → (xs.set k ⟨x.id, ws⟩)[j]? = some z → idLt z y = true := fun j y z hy hz => by
      obtain ⟨y', hy', ey⟩ := hidd _ _ hy
      obtain ⟨z', hz', ez⟩ := hidd _ _ hz
      have := allA_ord ha hy' hz'
      simp only [idLt] at this ⊢
      rw [← ey, ← ez]; exact this
    simp only [bookB, allA_mk h1 h2, List.length_set, Bool.true_and, decide_eq_true_eq]
    exact hl
theorem insV_wd {ws : List Int} {j : Nat} {z : Int} (h : wdB z = false) : rowB (insV ws j z) = false := by
  have : (insV ws j z).all wdB = false := by
    rw [List.all_eq_false]
    exact ⟨z, by simp [insV], by simp [h]⟩
  simp [rowB, this]

set_option maxRecDepth 20000 in
set_option maxHeartbeats 4000000 in
theorem implInsertStamp_any (A : Option Addr) (n c : Nat) (xs : List BR) (id i z : Int) (w : World) (hn : xs.length = n) (hA : RdB w A xs) (h20 : n ≤ 1048576) (hw : ∀ x ∈ xs, x.ws.length ≤ 1048576) :
    Calls Try.prog 6 #[.slice A n c, .int .i64 id, .int .i64 i, .int .i64 z] w (RetBB 55 3 (isV xs id i z) (isB xs id i z) w) := by
  have C0 := Lib.hid (fun w h => stripAt_any A n c xs id w hn h (by omega))
  have C := Lib.hid (fun w h => isStockBook_any A n c xs w hn h (by omega) (hw1 hw))
  have HA := Lib.hid hA
  cases hv : bookB xs with
  | false =>
    have hB : isB xs id i z = false := by simp [isB, findV, hv]
    rw [hv] at C
    rw [is_no hB, hB]
    obtain ⟨q, hq⟩ : ∃ q, q = idxV (hasId id) xs := ⟨_, rfl⟩
    rw [← hq] at C0
    clear hv hq hn hw hA hB
    go_enter Try.func6, Try.ntmps6
    go_wp2_with fail
    refine (C0.out _ HA.out).mono ?_
    rintro e w1 ⟨rfl, b1⟩
    go_wp2_with fail
    refine (C.out _ (HA.out.below b1)).mono ?_
    rintro e w2 ⟨rfl, b2⟩
    go_wp2
    go_ret2
    exact ⟨_, [], rfl, ownB_nil _ _ _ _, b1.trans (b2.mono b1.size)⟩
  | true =>
    have HBV := Lib.hid hv
    rw [hv] at C
    have hf : findV xs id = idxV (hasId id) xs := by simp [findV, hv]
    rcases is_ways xs id i z with ⟨h, hB⟩ | ⟨-, k, x, h, hk, hx, hrow, hi, hB⟩ | ⟨-, k, x, j, h, hk, hx, hrow, rfl, hj, hi, hB, hV⟩
    · rw [← hf, h] at C0
      rw [is_no hB, hB]
      clear hv hf hn hw hA hB h
      go_enter Try.func6, Try.ntmps6
      go_wp2_with fail
      refine (C0.out _ HA.out).mono ?_
      rintro e w1 ⟨rfl, b1⟩
      go_wp2_with fail
      refine (C.out _ (HA.out.below b1)).mono ?_
      rintro e w2 ⟨rfl, b2⟩
      go_wp2
      go_ret2
      exact ⟨_, [], rfl, ownB_nil _ _ _ _, b1.trans (b2.mono b1.size)⟩
    · rw [← hf, h] at C0
      have C1 := Lib.hid (fun w => inRange_any i 0 (x.ws.length : Int) w)
      rw [hi] at C1
      rw [is_no hB, hB]
      have HX := Lib.hid hx
      have hkn : k < n := by omega
      have r1 := (rowB_yes hrow).2.1
      clear hv hf h hn hw hA hB hx hrow hi hk
      go_enter Try.func6, Try.ntmps6
      go_wp2_with fail
      refine (C0.out _ HA.out).mono ?_
      rintro e w1 ⟨rfl, b1⟩
      go_wp2_with fail
      refine (C.out _ (HA.out.below b1)).mono ?_
      rintro e w2 ⟨rfl, b2⟩
      have hb2 := b1.trans (b2.mono b1.size)
      obtain ⟨g, o, B, cc, rfl, hg, c0, c1, -, -, -⟩ := (HA.out.below hb2).at HX.out
      go_wp2_with fail
      refine (C1.out _).mono ?_
      rintro e w3 ⟨rfl, rfl⟩
      go_wp2
      go_ret2
      exact ⟨_, [], rfl, ownB_nil _ _ _ _, hb2⟩
    · rw [← hf, h] at C0
      have C1 := Lib.hid (fun w => inRange_any (j : Int) 0 (x.ws.length : Int) w)
      rw [hi] at C1
      have C3 := Lib.hid (fun w => isWidth_any z w)
      have HX := Lib.hid hx
      have HN := Lib.hid hn
      have hkn : k < n := by omega
      have r1 := (rowB_yes hrow).2.1
      cases hwz : wdB z with
      | false =>
        rw [hwz] at C3
        have hBf : isB xs id (j : Int) z = false := hB.trans (insV_wd hwz)
        rw [is_no hBf, hBf]
        clear hv hf h hn hw hA hB hx hrow hi hk hV hwz hBf
        go_enter Try.func6, Try.ntmps6
        go_wp2_with fail
        refine (C0.out _ HA.out).mono ?_
        rintro e w1 ⟨rfl, b1⟩
        go_wp2_with fail
        refine (C.out _ (HA.out.below b1)).mono ?_
        rintro e w2 ⟨rfl, b2⟩
        have hb2 := b1.trans (b2.mono b1.size)
        obtain ⟨g, o, B, cc, rfl, hg, c0, c1, -, -, -⟩ := (HA.out.below hb2).at HX.out
        go_wp2_with fail
        refine (C1.out _).mono ?_
        rintro e w3 ⟨rfl, rfl⟩
        go_wp2_with fail
        refine (C3.out _).mono ?_
        rintro e w3 ⟨rfl, rfl⟩
        go_wp2
        go_ret2
        exact ⟨_, [], rfl, ownB_nil _ _ _ _, hb2⟩
      | true =>
        rw [hwz] at C3
        have C4 := Lib.hid (fun w h => copyBook_any A n c xs w hn h h20 hw)
        have hno := fun h => is_no (xs := xs) (id := id) (i := (j : Int)) (z := z) h
        obtain ⟨V, hVV⟩ : ∃ V, V = isV xs id (j : Int) z := ⟨_, rfl⟩
        obtain ⟨Q, hQQ⟩ : ∃ Q, Q = isB xs id (j : Int) z := ⟨_, rfl⟩
        rw [← hVV] at hV hno
        rw [← hQQ] at hB hno
        rw [← hVV, ← hQQ]
        have HB := Lib.hid hB
        have HV := Lib.hid hV
        have HNO := Lib.hid hno
        have HIL := Lib.hid (insV_len z hj)
        have HBS := Lib.hid (bookB_set (insV x.ws j z) HBV.out hx)
        have hwx : ∀ y ∈ xs.set k ⟨x.id, insV x.ws j z⟩, y.ws.length ≤ 1048577 := fun y hy => by
          rw [← withV_at hx] at hy
          rcases withV_mem hy with e | ⟨u, hu, e⟩
          · rw [e, HIL.out]; omega
          · rw [← e]; have := hw u hu; omega
        have HWX := Lib.hid hwx
        clear hv hf h hn hw hA hB hx hrow hi hk hV hwz hno hVV hQQ hwx
        go_enter Try.func6, Try.ntmps6
        go_wp2_with fail
        refine (C0.out _ HA.out).mono ?_
        rintro e w1 ⟨rfl, b1⟩
        go_wp2_with fail
        refine (C.out _ (HA.out.below b1)).mono ?_
        rintro e w2 ⟨rfl, b2⟩
        have hb2 := b1.trans (b2.mono b1.size)
        obtain ⟨g, o, B, cc, rfl, hg, c0, c1, -, -, -⟩ := (HA.out.below hb2).at HX.out
        have HB2 := Lib.hid hb2
        have hs2 := hb2.size
        clear b1 b2 hb2
        go_wp2_with fail
        refine (C1.out _).mono ?_
        rintro e w3 ⟨rfl, rfl⟩
        go_wp2_with fail
        refine (C3.out _).mono ?_
        rintro e w3 ⟨rfl, rfl⟩
        go_wp2_with fail
        refine (C4.out _ (HA.out.below HB2.out)).mono ?_
        rintro e w4 ⟨v, vs, rfl, ow, b4⟩
        have hrow := ow.2.1
        rw [HN.out] at hrow
        obtain ⟨Av, cv, rfl⟩ := own_form hrow
        obtain ⟨gg, rfl⟩ := own_somei hrow (by omega)
        obtain ⟨u, hu⟩ : ∃ u, vs[k]? = some u := ⟨vs[k]'(by have := ow.1; have := HN.out; omega), List.getElem?_eq_getElem _⟩
        have hui := ow.2.2.1 k x u HX.out hu
        obtain ⟨Au, cu, rfl⟩ := own_form hui
        have eu : w4.cell? ⟨gg, k * 2 + 1, none⟩ = some (.slice Au x.ws.length cu) := by rw [hrow.cellAt _ (by omega)]; exact (cellsB_get HX.out hu).2
        have hs4 := b4.size
        have hgg : w2.heap.size ≤ gg ∧ gg < w4.heap.size := ow.lt 0 _ gg rfl rfl
        have BA : Below w4.heap.size w4 (w4.alloc (.cells #[.int .i64 z] 3)) := (Below.refl _ _).alloc (Nat.le_refl _) _
        have ow' := ow.below BA
        have hne := ow'.2.2.2.ne (i := 0) (j := k + 1) (by omega) rfl (by simpa using hu)
        have hr' := ow'.2.1
        rw [HN.out] at hr'
        have HR' := Lib.hid hr'
        have HNE := Lib.hid hne
        have HOW := Lib.hid ow'
        have HU := Lib.hid hu
        have HUI := Lib.hid (own_below hui BA)
        have HHN := Lib.hid (heap_alloc_new w4 (.cells #[.int .i64 z] 3))
        have HUB := Lib.hid (fun e => by have := (hui.lt w4.heap.size e).2; omega : (Value.slice Au x.ws.length cu).ownBlock ≠ some w4.heap.size)
        have B4 := Lib.hid ((HB2.out.trans (b4.mono hs2)).alloc (Nat.le_trans hs2 hs4) (.cells #[.int .i64 z] 3))
        clear ow hrow hu hui b4 c0 c1 ow' hne hr' BA
        go_wp2_with fail
        refine (insInt_any w2.heap.size x.ws.length j w4.heap.size (.slice Au x.ws.length cu) (cells1 x.ws) (.int .i64 z) _ HUI.out (by simp; omega) hj (oneCell_ints _) rfl HHN.out HUB.out (by omega)).mono ?_
        rintro e w5 ⟨u5, rfl, o5, g5, d5⟩
        obtain ⟨A5, c5, rfl⟩ := own_form o5
        have hcells : (cells1 x.ws).take j ++ (Value.int .i64 z :: (cells1 x.ws).drop j) = cells1 (insV x.ws j z) := by simp [insV, cells1]
        have o5' : w5.ownsRow w2.heap.size 3 1 (.slice A5 (x.ws.length + 1) c5) (insV x.ws j z).length (cells1 (insV x.ws j z)) := by
          rw [HIL.out, ← hcells]; exact o5
        have hr5 := HR'.out.kept g5 HNE.out
        obtain ⟨z5, y5⟩ : ∃ z, w5.cell? ⟨gg, k * 2 + 1, none⟩ = some z := ⟨_, (hr5.cellAt (k * 2 + 1) (by omega)).trans (List.getElem?_eq_getElem (by rw [hr5.1]; omega))⟩
        have f5 := hr5.frozenAt (k * 2 + 1)
        have HS := Lib.hid (HOW.out.setSlice HN.out HX.out HU.out (ws := insV x.ws j z) (u' := .slice A5 (x.ws.length + 1) c5) o5' g5 (fun q hq => by
          rcases d5 with d | d
          · exact .inl (d.symm.trans hq)
          · right; rw [d] at hq; injection hq with hq; omega))
        have hs5 := g5.size
        have B6 := Lib.hid (((B4.out.grown g5 B4.out.size (fun q hq => by have := (HUI.out.lt q hq).1; omega))).setCell (p := ⟨gg, k * 2 + 1, none⟩) (by show w.heap.size ≤ gg; omega) (.slice A5 (x.ws.length + 1) c5))
        clear o5 g5 d5 hcells o5' hr5 hs5 eu
        go_wp2_with fail
        refine (isStockBook_any (some ⟨gg, 0, none⟩) n cv (xs.set k ⟨x.id, insV x.ws j z⟩) _ (by rw [List.length_set]; exact HN.out) HS.out.rd2 (by omega) HWX.out).mono ?_
        rintro e w7 ⟨rfl, b7⟩
        rw [HBS.out]
        have HS7 := Lib.hid ((HS.out.below b7).mono hs2)
        have B7 := Lib.hid (B6.out.trans (b7.mono B6.out.size))
        clear b7 y5 f5
        cases hr : rowB (insV x.ws j z) with
        | false =>
          have hisv := Lib.hid (HNO.out (HB.out.trans hr))
          rw [hr] at HB
          clear hr
          go_wp2
          go_ret2
          rw [hisv.out, HB.out]
          exact ⟨_, [], rfl, ownB_nil _ _ _ _, B7.out⟩
        | true =>
          have hisv := Lib.hid (HV.out hr)
          rw [hr] at HB
          clear hr
          go_wp2
          go_ret2
          rw [hisv.out, HB.out]
          exact ⟨_, _, rfl, HS7.out, B7.out⟩
end Go.Proofs.Ytacacibpehnmgaa
