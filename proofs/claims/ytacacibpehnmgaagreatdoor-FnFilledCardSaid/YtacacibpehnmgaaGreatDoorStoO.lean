/- Stock book: FillBook of the reference. -/
import Derived.Test.YtacacibpehnmgaaGreatDoorStoJ
import Derived.Test.YtacacibpehnmgaaGreatDoorStoF
namespace Go.Proofs.YtacacibpehnmgaaGreatDoor
set_option linter.unusedVariables false
set_option linter.unusedSimpArgs false
open Go.RowKit

theorem tiN_at {xs : List BR} {z : Int} : ∀ k : Nat, 0 ≤ tiN xs z k → ∃ x, xs[(tiN xs z k).toNat]? = some x ∧ roomB x.ws z = true
  | 0, h => by simp [tiN] at h
  | k + 1, h => by
    have ih := tiN_at (xs := xs) (z := z) k
    cases hx : xs[k]? with
    | none => simp only [tiN, hx] at h ⊢; exact ih h
    | some x =>
      simp only [tiN, hx] at h ⊢
      split
      · rename_i hc
        simp only [Bool.and_eq_true] at hc
        exact ⟨x, by simpa using hx, hc.1⟩
      · rename_i hc
        rw [if_neg hc] at h
        exact ih h
theorem tight_at {xs : List BR} {z : Int} (h : 0 ≤ tightV xs z) : ∃ (m : Nat) (x : BR), tightV xs z = m ∧ m < xs.length ∧ xs[m]? = some x ∧ roomB x.ws z = true := by
  obtain ⟨x, hx, hr⟩ := tiN_at xs.length h
  refine ⟨(tightV xs z).toNat, x, by omega, ?_, hx, hr⟩
  exact (List.getElem?_eq_some_iff.1 hx).1
/-- What FillBook has behind k stamps: the book, and the indices of those that found no room. -/
def fbS (xs : List BR) (ws : List Int) : Nat → List BR × List Int
  | 0 => (xs, [])
  | k + 1 => match ws[k]? with
    | some z => if tightV (fbS xs ws k).1 z < 0 then ((fbS xs ws k).1, (fbS xs ws k).2 ++ [(k : Int)])
      else (withV (fbS xs ws k).1 (tightV (fbS xs ws k).1 z) ((atB (fbS xs ws k).1 (tightV (fbS xs ws k).1 z)).ws ++ [z]), (fbS xs ws k).2)
    | none => fbS xs ws k
theorem fbS_no {xs : List BR} {ws : List Int} {k : Nat} {z : Int} (h : ws[k]? = some z) (ht : tightV (fbS xs ws k).1 z < 0) : fbS xs ws (k + 1) = ((fbS xs ws k).1, (fbS xs ws k).2 ++ [(k : Int)]) := by simp only [fbS, h, if_pos ht]
theorem fbS_yes {xs : List BR} {ws : List Int} {k m : Nat} {z : Int} {x : BR} (h : ws[k]? = some z) (ht : tightV (fbS xs ws k).1 z = m) (hx : (fbS xs ws k).1[m]? = some x) : fbS xs ws (k + 1) = (withV (fbS xs ws k).1 m (x.ws ++ [z]), (fbS xs ws k).2) := by
  simp only [fbS, h, ht]
  rw [if_neg (by omega), atB_at hx]
theorem rowsB_with {xs : List BR} {i : Int} {ws : List Int} (h : rowsB xs) (hw : rowB ws = true) : rowsB (withV xs i ws) := fun x hx => by
  rcases withV_mem hx with e | ⟨y, hy, e⟩
  · rw [e]; exact hw
  · rw [← e]; exact h y hy
theorem fbS_inv {xs : List BR} {ws : List Int} (h : rowsB xs) : ∀ k : Nat, rowsB (fbS xs ws k).1 ∧ (fbS xs ws k).1.length = xs.length ∧ (fbS xs ws k).2.length ≤ k
  | 0 => ⟨h, rfl, by simp [fbS]⟩
  | k + 1 => by
    obtain ⟨h1, h2, h3⟩ := fbS_inv h k
    cases hz : ws[k]? with
    | none => simp only [fbS, hz]; exact ⟨h1, h2, by omega⟩
    | some z =>
      rcases Int.lt_or_le (tightV (fbS xs ws k).1 z) 0 with ht | ht
      · rw [fbS_no hz ht]; exact ⟨h1, h2, by simp; omega⟩
      · obtain ⟨m, x, hm, hml, hx, hr⟩ := tight_at ht
        rw [fbS_yes hz hm hx]
        exact ⟨rowsB_with h1 hr, by rw [withV_len]; exact h2, by show (fbS xs ws k).2.length ≤ k + 1; omega⟩
def fbB (xs : List BR) (ws : List Int) : Bool := bookB xs && (decide (ws.length ≤ 20) && ws.all wdB)
def fbV (xs : List BR) (ws : List Int) : List BR := if fbB xs ws then (fbS xs ws ws.length).1 else []
def fbN (xs : List BR) (ws : List Int) : List Int := if fbB xs ws then (fbS xs ws ws.length).2 else []
theorem fb_small (xs : List BR) (ws : List Int) : smallB (fbV xs ws) := by
  unfold fbV
  split
  · rename_i h
    simp only [fbB, Bool.and_eq_true] at h
    obtain ⟨h1, h2, -⟩ := fbS_inv (ws := ws) (bookB_rows h.1) ws.length
    exact ⟨by rw [h2]; exact (bookB_yes h.1).2, fun x hx => by have := (rowB_yes (h1 x hx)).2.1; omega⟩
  · exact smallB_nil
theorem fbN_len (xs : List BR) (ws : List Int) : (fbN xs ws).length ≤ 20 := by
  unfold fbN
  split
  · rename_i h
    simp only [fbB, Bool.and_eq_true, decide_eq_true_eq] at h
    have := (fbS_inv (ws := ws) (bookB_rows h.1) ws.length).2.2
    omega
  · simp

/-- The call returns a book and a list of ints in memory of its own, apart from each other, and a Bool. -/
def RetBSB (E EI : Nat) (xs : List BR) (zs : List Int) (b : Bool) (W : World) : Ending → World → Prop := fun e w' => ∃ v vs v1, e = .returned (.tuple #[v, v1, .bool b]) ∧ OwnB w' W.heap.size E EI v xs vs ∧ w'.ownsRow W.heap.size EI 1 v1 zs.length (cells1 zs) ∧
  (∀ (j : Nat) (a : Value) (k : Nat), (v :: vs)[j]? = some a → a.ownBlock = some k → v1.ownBlock = some k → False) ∧ Below W.heap.size W w'
theorem rowsB_w {xs : List BR} (h : rowsB xs) : ∀ x ∈ xs, x.ws.length ≤ 1048576 := fun x hx => by have := (rowB_yes (h x hx)).2.1; omega
/-- What FillBook's loops keep. -/
def FbRel (W : World) (E EI : Nat) (xs : List BR) (ws : List Int) (k : Nat) (v v1 : Value) (wr : World) : Prop :=
  ∃ vs, OwnB wr W.heap.size E EI v (fbS xs ws k).1 vs ∧ wr.ownsRow W.heap.size EI 1 v1 (fbS xs ws k).2.length (cells1 (fbS xs ws k).2) ∧
    (∀ (j : Nat) (a : Value) (q : Nat), (v :: vs)[j]? = some a → a.ownBlock = some q → v1.ownBlock = some q → False) ∧ Below W.heap.size W wr

theorem own_lt' {w : World} {base e size n : Nat} {v : Value} {cs : List Value} (h : w.ownsRow base e size v n cs) {k : Nat} (hk : v.ownBlock = some k) : k < w.heap.size := (h.lt k hk).2
theorem FbRel.miss {W wr w3 w4 : World} {E EI k : Nat} {xs : List BR} {ws : List Int} {z : Int} {v v1 v1' : Value} (h : FbRel W E EI xs ws k v v1 wr) (hz : ws[k]? = some z) (ht : tightV (fbS xs ws k).1 z < 0) (hb : Below wr.heap.size wr w3)
    (o' : w4.ownsRow W.heap.size EI 1 v1' ((fbS xs ws k).2.length + 1) (cells1 (fbS xs ws k).2 ++ [.int .i64 (k : Int)])) (g' : w3.grownBy w4 v1.ownBlock) (d' : v1'.ownBlock = v1.ownBlock ∨ v1'.ownBlock = some w3.heap.size) : FbRel W E EI xs ws (k + 1) v v1' w4 := by
  obtain ⟨vs, ow, o1, hap, hB⟩ := h
  have hs := hb.size
  unfold FbRel
  rw [fbS_no hz ht]
  refine ⟨vs, (ow.below hb).only (Only.of_grown g') (fun j a q ha hq hS => hap j a q ha hq hS), ?_, fun j a q ha hq hk => ?_, (hB.trans (hb.mono hB.size)).grown g' (Nat.le_trans hB.size hs) (fun q hq => (o1.lt q hq).1)⟩
  · have e : cells1 ((fbS xs ws k).2 ++ [(k : Int)]) = cells1 (fbS xs ws k).2 ++ [.int .i64 (k : Int)] := by rw [cells1_append]; rfl
    show w4.ownsRow W.heap.size EI 1 v1' ((fbS xs ws k).2 ++ [(k : Int)]).length (cells1 ((fbS xs ws k).2 ++ [(k : Int)]))
    rw [e, List.length_append]; exact o'
  · rcases d' with d | d
    · exact hap j a q ha hq (d.symm.trans hk)
    · rw [d] at hk; injection hk with hk
      have := (ow.lt j a q ha hq).2; omega
theorem FbRel.hitNew {W wr w4 w5 : World} {E EI k m : Nat} {xs : List BR} {ws : List Int} {z : Int} {x : BR} {v v' v1 : Value} {vs' : List Value} (h : FbRel W E EI xs ws k v v1 wr) (hz : ws[k]? = some z) (ht : tightV (fbS xs ws k).1 z = m) (hx : (fbS xs ws k).1[m]? = some x)
    (hb : Below wr.heap.size wr w4) (o5 : OwnB w5 w4.heap.size E EI v' (withV (fbS xs ws k).1 m (x.ws ++ [z])) vs') (b5 : Below w4.heap.size w4 w5) : FbRel W E EI xs ws (k + 1) v' v1 w5 := by
  obtain ⟨vs, ow, o1, hap, hB⟩ := h
  have hs := hb.size
  have hs2 := hB.size
  unfold FbRel
  rw [fbS_yes hz ht hx]
  refine ⟨vs', o5.mono (Nat.le_trans hs2 hs), own_below (own_below o1 hb) b5, fun j a q ha hq hk => ?_, (hB.trans (hb.mono hs2)).trans (b5.mono (Nat.le_trans hs2 hs))⟩
  have h1 := (o5.lt j a q ha hq).1
  have h2 := own_lt' o1 hk
  omega

set_option maxRecDepth 20000 in
set_option maxHeartbeats 4000000 in
theorem specFillBook_any (A : Option Addr) (n c : Nat) (xs : List BR) (A1 : Option Addr) (m c1 : Nat) (ws : List Int) (w : World) (hn : xs.length = n) (hA : RdB w A xs) (h20 : n ≤ 1048576) (hw : ∀ x ∈ xs, x.ws.length ≤ 1048576)
    (hm : ws.length = m) (hA1 : Rd w A1 (cells1 ws)) (hm20 : m ≤ 1048576) :
    Calls Tryz.prog 7 #[.slice A n c, .slice A1 m c1] w (RetBSB 34 3 (fbV xs ws) (fbN xs ws) (fbB xs ws) w) := by
  have C0 := Lib.hid (fun w h => l27Good_any A n c xs w hn h (by omega) (hw1 hw))
  have HA := Lib.hid hA
  have HA1 := Lib.hid hA1
  have HM := Lib.hid hm
  cases hv : bookB xs with
  | false =>
    rw [hv] at C0
    have hB : fbB xs ws = false := by simp [fbB, hv]
    rw [fbV, fbN, hB]
    clear hv hB hn hw hA hA1 hm
    go_enter Tryz.func7, Tryz.ntmps7
    go_wp2_with fail
    refine (C0.out _ HA.out).mono ?_
    rintro e w1 ⟨rfl, b1⟩
    have hs1 := b1.size
    go_wp2
    refine bodyPost_ret (v := .tuple #[.slice (some ⟨w1.heap.size, 0, none⟩) 0 0, .slice (some ⟨w1.heap.size + 1, 0, none⟩) 0 0, .bool false]) (by simp [results, Tryz.results7, go_sem]) rfl ?_
    refine ⟨_, [], _, rfl, (ownB_empty _ _ _ _ hs1).below ((Below.refl _ _).alloc (Nat.le_refl _) _), ?_, fun j a q ha hq hk => ?_, (b1.alloc hs1 _).alloc (by simp; omega) _⟩
    · have := own_empty (w1.alloc (.cells #[] 34)) w.heap.size 3 1 (by simp; omega)
      simpa [cells1] using this
    · cases j with
      | zero => simp at ha; subst ha; simp [Value.ownBlock] at hq hk; omega
      | succ j => simp at ha
  | true =>
    rw [hv] at C0
    by_cases hl : m ≤ 20
    · have hd : decide ((20 : Int) < (m : Int)) = false := by simp; omega
      have C3 := Lib.hid (fun w b h => l27With_any A n c xs (-1) (some ⟨b, 0, none⟩) 0 0 [] w hn h h20 hw rfl (.inl rfl) (by omega))
      have HN := Lib.hid hn
      have HR := Lib.hid (bookB_rows hv)
      have HB := Lib.hid (show fbB xs ws = ws.all wdB by simp [fbB, hv]; omega)
      have hl8 := (bookB_yes hv).2
      clear hv hn hw hA hA1 hm
      go_enter Tryz.func7, Tryz.ntmps7
      go_wp2_with fail
      refine (C0.out _ HA.out).mono ?_
      rintro e w1 ⟨rfl, b1⟩
      have hs1 := b1.size
      go_wp2_with fail
      refine (C3.out _ _ ((HA.out.below b1).alloc _)).mono ?_
      rintro e w2 ⟨v, vs, rfl, ow, b2⟩
      rw [withV_neg (by omega)] at ow
      have hs2 : w1.heap.size ≤ w2.heap.size := by have := b2.size; simp at this; omega
      have hb2 : Below w.heap.size w w2 := (b1.alloc hs1 _).trans (b2.mono (by simp; omega))
      obtain ⟨Av, cv, rfl⟩ := own_form ow.2.1
      have HREL : Hid (FbRel w 34 3 xs ws 0 (.slice Av xs.length cv) (.slice (some ⟨w2.heap.size, 0, none⟩) 0 0) (w2.alloc (.cells #[] 3))) := by
        refine Lib.hid ⟨vs, (ow.mono (by simp; omega)).below ((Below.refl _ _).alloc (Nat.le_refl _) _), own_empty w2 w.heap.size 3 1 hb2.size, fun j a q ha hq hk => ?_, hb2.alloc hb2.size _⟩
        have := (ow.lt j a q ha hq).2
        simp [Value.ownBlock] at hk; omega
      clear ow b2 b1
      go_wp2_with fail
      go_loopw [7, 8, 9, 10] (fun v v1 i _ wr => ∃ k : Nat, k ≤ m ∧ i = .int .i64 k ∧ FbRel w 34 3 xs ws k v v1 wr ∧ (∀ (j : Nat) (y : Int), j < k → ws[j]? = some y → wdB y = true)) (fun _ _ i _ _ => m - (intOf i).toNat)
      case atStart => exact ⟨0, Nat.zero_le _, rfl, HREL.out, fun j y hj => by omega⟩
      case round =>
        obtain ⟨k, hk, rfl, hrel, hall⟩ := hrel
        have HRL := Lib.hid hrel
        have HAL := Lib.hid hall
        obtain ⟨vs', ow, o1, hap, hb⟩ := hrel
        have hs := hb.size
        obtain ⟨i1, i2, i3⟩ := fbS_inv (ws := ws) HR.out k
        clear hall
        by_cases hlt : k < m
        · obtain ⟨z, hzk⟩ : ∃ z, ws[k]? = some z := ⟨ws[k]'(by have := HM.out; omega), List.getElem?_eq_getElem _⟩
          obtain ⟨gw, og, rfl, hgw, e0⟩ := (HA1.out.below hb).at1 hzk
          have HZ := Lib.hid hzk
          have C4 := Lib.hid (fun w => l27Width_any z w)
          cases hwz : wdB z with
          | false =>
            rw [hwz] at C4
            have hall2 : ws.all wdB = false := by rw [List.all_eq_false]; exact ⟨z, List.mem_of_getElem? hzk, by simp [hwz]⟩
            have HBF := Lib.hid (HB.out.trans hall2)
            clear hwz hall2 hzk ow o1 hap i1 i2 i3
            go_wp2_with fail
            refine (C4.out _).mono ?_
            rintro e w3 ⟨rfl, rfl⟩
            go_wp2
            refine bodyPost_ret (v := .tuple #[.slice (some ⟨wr.heap.size, 0, none⟩) 0 0, .slice (some ⟨wr.heap.size + 1, 0, none⟩) 0 0, .bool false]) (by simp [results, Tryz.results7, go_sem]) rfl ?_
            rw [fbV, fbN, HBF.out]
            refine ⟨_, [], _, rfl, (ownB_empty _ _ _ _ hs).below ((Below.refl _ _).alloc (Nat.le_refl _) _), ?_, fun j a q ha hq hk => ?_, (hb.alloc hs _).alloc (by simp; omega) _⟩
            · have := own_empty (wr.alloc (.cells #[] 34)) w.heap.size 3 1 (by simp; omega)
              simpa [cells1] using this
            · cases j with
              | zero => simp at ha; subst ha; simp [Value.ownBlock] at hq hk; omega
              | succ j => simp at ha
          | true =>
            rw [hwz] at C4
            have HWZ := Lib.hid hwz
            clear hwz
            obtain ⟨Av, cv, rfl⟩ := own_form ow.2.1
            have hnl : (fbS xs ws k).1.length ≤ 1048576 := by omega
            have C5 := Lib.hid (fun w h => l27Tight_any Av _ cv (fbS xs ws k).1 z w rfl h hnl i1)
            obtain ⟨t, ht⟩ : ∃ t, t = tightV (fbS xs ws k).1 z := ⟨_, rfl⟩
            rw [← ht] at C5
            have HOW := Lib.hid ow
            have HO1 := Lib.hid o1
            have HAP := Lib.hid hap
            have I1 := Lib.hid i1
            have I2 := Lib.hid i2
            have HT := Lib.hid ht
            clear ow o1 hap i1 i2 ht hzk hnl
            go_wp2_with fail
            refine (C4.out _).mono ?_
            rintro e w3 ⟨rfl, rfl⟩
            go_wp2_with fail
            refine (C5.out _ HOW.out.rd2).mono ?_
            rintro e w3 ⟨rfl, b3⟩
            have hs3 := b3.size
            have HRX := Lib.hid (HA1.out.below (hb.trans (b3.mono hs)))
            by_cases ht0 : t < 0
            · have hd2 : decide (t < 0) = true := by simpa using ht0
              have hT := HT.out
              have HT0 := Lib.hid (show tightV (fbS xs ws k).1 z < 0 by omega)
              have hrow := fun q => own_below HO1.out (b3.alloc hs3 q)
              have HROW := Lib.hid hrow
              clear hrow hT
              go_wp2_with (at_builtin; go_must (refine wpList_app _ rfl (.tmp 47) (.tmp 49) 25 rfl w.heap.size 3 _ 1 8 Tryz.underlying25 infoI rfl (by omega) _ _ _ rfl (HROW.out _) _ 1 1 [.int .i64 (k : Int)] rfl rfl (rd_new #[.int .i64 (k : Int)] 3 (by simp)) (oneCell_ints [(k : Int)]) (by unfold maxLen; omega) (by omega) (by simp; omega) ?_); intro v' w' o' g' d')
              have HF := Lib.hid (HRL.out.miss HZ.out HT0.out (b3.alloc hs3 _) o' g' d')
              clear o' g' d' HROW b3
              go_roundw
              case rel =>
                refine ⟨k + 1, by omega, by go_num, HF.out, fun j y hj hy => ?_⟩
                rcases Nat.lt_or_ge j k with h | h
                · exact HAL.out j y h hy
                · have : j = k := by omega
                  subst this; rw [HZ.out] at hy; injection hy with hy; subst hy; exact HWZ.out
              case measure => simp [intOf]; omega
            · obtain ⟨q, x, hq, hql, hx, hrm⟩ := tight_at (xs := (fbS xs ws k).1) (z := z) (by have := HT.out; omega)
              obtain rfl : t = (q : Int) := by rw [HT.out, hq]
              have hd2 : decide ((q : Int) < 0) = false := by simp
              have hR2 := I1.out
              have hlx := (rowB_yes (hR2 x (List.mem_of_getElem? hx))).2.1
              have HX := Lib.hid hx
              have HQ := Lib.hid hq
              obtain ⟨gg, o, B, cc, rfl, hg, c0, c1, -, -, hrd⟩ := (HOW.out.rd2.below b3).at hx
              have HRD := Lib.hid hrd
              have HOW3 := Lib.hid (HOW.out.rd2.below b3)
              have HRW := Lib.hid (rowsB_w hR2)
              have B3 := Lib.hid b3
              have x0 : w3.cell? ⟨gw, og + k, none⟩ = some (.int .i64 z) := (b3.cell (p := ⟨gw, og + k, none⟩) hgw).trans e0
              have hgw3 : gw < w3.heap.size := by omega
              have hq1 : (q : Int) < ((fbS xs ws k).1.length : Int) := by omega
              have hq0 : (0 : Int) ≤ (q : Int) := by omega
              have hk0 : (0 : Int) ≤ (k : Int) := by omega
              have hk1 : (k : Int) < (m : Int) := by omega
              have hn20 : (fbS xs ws k).1.length ≤ 1048576 := by have := I2.out; omega
              have HN20 := Lib.hid hn20
              clear hq hql hx hrm hR2 hrd b3 e0 c0 hn20
              go_wp2_with fail
              go_region_held3 (fun w' => w'.cell? ⟨gg, o + q * 2 + 1, none⟩ = some (.slice B x.ws.length cc) ∧ w'.cell? ⟨gw, og + k, none⟩ = some (.int .i64 z)) (first | go_keep | exact KE4 | exact KE5 | exact KE6) (first
                | (go_at_call 40; (with_reducible refine (l1Own_any B x.ws.length cc x.ws _ rfl (by first | exact HRD.out.drew | exact (HRD.out.alloc _).drew) (by omega)).mono ?_); rintro e w4 ⟨u, rfl, o4, b4⟩; obtain ⟨Au, cu, rfl⟩ := own_form o4; have KE4 : w4.cell? ⟨gg, o + q * 2 + 1, none⟩ = some (.slice B x.ws.length cc) ∧ w4.cell? ⟨gw, og + k, none⟩ = some (.int .i64 z) := ⟨(b4.cell (p := ⟨gg, o + q * 2 + 1, none⟩) (by simp <;> omega)).trans (by first | exact c1 | exact (World.cell?_alloc_lt _ _ _ hg).trans c1), (b4.cell (p := ⟨gw, og + k, none⟩) (by simp <;> omega)).trans (by first | exact x0 | exact (World.cell?_alloc_lt _ _ _ hgw3).trans x0)⟩; have O4 : Hid (w4.ownsRow w3.heap.size 3 1 (.slice Au x.ws.length cu) x.ws.length (cells1 x.ws)) := (by first | exact Lib.hid (own_mono o4 (Nat.le_refl _)) | exact Lib.hid (own_mono o4 (by simp))); have B4 : Hid (Below w3.heap.size w3 w4) := (by first | exact Lib.hid ((Below.refl _ _).drew.trans b4) | exact Lib.hid ((((Below.refl _ _).alloc (Nat.le_refl _) _).drew).trans (b4.mono (by simp)))); (first | (have RX4 := Lib.hid ((rd_new #[.int .i64 z] 3 rfl).drew.below b4)) | (have RX4 := Lib.hid trivial)))
                | (refine step_app rfl (.tmp 58) (.tmp 63) 25 rfl w3.heap.size 3 _ 1 8 Tryz.underlying25 infoI rfl (by omega) (.slice Au x.ws.length cu) x.ws.length (cells1 x.ws) (by simp [Act.eval, Act.put]) (by exact own_below O4.out ((Below.refl _ _).alloc (Nat.le_refl _) _)) (some ⟨w4.heap.size, 0, none⟩) 1 1 [.int .i64 z] (by simp [Act.eval, Act.put]) rfl (rd_new #[.int .i64 z] 3 rfl) (oneCell_ints [z]) (by unfold maxLen; omega) (by omega) (by have := B4.out.size; simp; omega) ?_; intro v5 w5 o5 g5 d5; have B5 : Hid (Below w3.heap.size w3 w5) := Lib.hid ((B4.out.alloc B4.out.size _).grown g5 (B4.out.alloc B4.out.size _).size (fun q hq => (O4.out.lt q hq).1)); have KE5 : w5.cell? ⟨gg, o + q * 2 + 1, none⟩ = some (.slice B x.ws.length cc) ∧ w5.cell? ⟨gw, og + k, none⟩ = some (.int .i64 z) := ⟨(B5.out.cell (p := ⟨gg, o + q * 2 + 1, none⟩) hg).trans c1, (B5.out.cell (p := ⟨gw, og + k, none⟩) hgw3).trans x0⟩; obtain ⟨A5, c5, rfl⟩ := own_form o5; rw [cells1_snoc] at o5; have O5 := Lib.hid o5)
                | (refine step_app rfl (.tmp 58) (.tmp 63) 25 rfl w3.heap.size 3 _ 1 8 Tryz.underlying25 infoI rfl (by omega) (.slice Au x.ws.length cu) x.ws.length (cells1 x.ws) (by simp [Act.eval, Act.put]) (by exact O4.out) (some ⟨w3.heap.size, 0, none⟩) 1 1 [.int .i64 z] (by simp [Act.eval, Act.put]) rfl RX4.out (oneCell_ints [z]) (by unfold maxLen; omega) (by omega) B4.out.size ?_; intro v5 w5 o5 g5 d5; have B5 : Hid (Below w3.heap.size w3 w5) := Lib.hid (B4.out.grown g5 B4.out.size (fun q hq => (O4.out.lt q hq).1)); have KE5 : w5.cell? ⟨gg, o + q * 2 + 1, none⟩ = some (.slice B x.ws.length cc) ∧ w5.cell? ⟨gw, og + k, none⟩ = some (.int .i64 z) := ⟨(B5.out.cell (p := ⟨gg, o + q * 2 + 1, none⟩) hg).trans c1, (B5.out.cell (p := ⟨gw, og + k, none⟩) hgw3).trans x0⟩; obtain ⟨A5, c5, rfl⟩ := own_form o5; rw [cells1_snoc] at o5; have O5 := Lib.hid o5)
                | (go_at_call 37; (with_reducible refine (l27With_any (some ⟨gg, o, none⟩) _ cv (fbS xs ws k).1 q A5 (x.ws.length + 1) c5 (x.ws ++ [z]) _ rfl (HOW3.out.below B5.out) HN20.out HRW.out (by simp) (Rd.of_own O5.out) (by omega)).mono ?_); rintro e w6 ⟨v6, vs6, rfl, o6, b6⟩; have hs5 := B5.out.size; have KE6 : w6.cell? ⟨gg, o + q * 2 + 1, none⟩ = some (.slice B x.ws.length cc) ∧ w6.cell? ⟨gw, og + k, none⟩ = some (.int .i64 z) := ⟨(b6.cell (p := ⟨gg, o + q * 2 + 1, none⟩) (by show gg < w5.heap.size; omega)).trans KE5.1, (b6.cell (p := ⟨gw, og + k, none⟩) (by show gw < w5.heap.size; omega)).trans KE5.2⟩))
              all_goals go_goals
              all_goals (
                have HF := Lib.hid (HRL.out.hitNew HZ.out HQ.out HX.out (B3.out.trans (B5.out.mono hs3)) o6 b6)
                clear KE4 KE5 KE6 O4 B4 RX4 O5 o4 b4 o5 g5 d5 o6 b6 x0 c1
                go_wp2_with fail
                go_roundw
                case rel =>
                  refine ⟨k + 1, by omega, by go_num, HF.out, fun j y hj hy => ?_⟩
                  rcases Nat.lt_or_ge j k with h | h
                  · exact HAL.out j y h hy
                  · have : j = k := by omega
                    subst this; rw [HZ.out] at hy; injection hy with hy; subst hy; exact HWZ.out
                case measure => simp [intOf]; omega)
        · have hkm : k = ws.length := by have := HM.out; omega
          have hall2 : ws.all wdB = true := by
            rw [List.all_eq_true]
            intro y hy
            obtain ⟨j, hj, rfl⟩ := List.getElem_of_mem hy
            exact HAL.out j _ (by omega) (List.getElem?_eq_getElem hj)
          have HBT := Lib.hid (HB.out.trans hall2)
          have HKM := Lib.hid hkm
          clear hall2 hkm ow o1 hap i1 i2 i3
          go_wp2
          obtain ⟨vs9, ow9, o19, hap9, hb9⟩ := HRL.out
          obtain ⟨A9, c9, e9⟩ := own_form ow9.2.1
          obtain ⟨A8, c8, e8⟩ := own_form o19
          refine bodyPost_ret (by simp [results, Tryz.results7, go_sem]; rfl) rfl ?_
          refine ⟨_, vs9, _, by rw [HBT.out], ?_, ?_, hap9, hb9⟩
          · rw [fbV, HBT.out, if_pos rfl, ← HKM.out]; exact ow9
          · rw [fbN, HBT.out, if_pos rfl, ← HKM.out]; exact o19
    · have hd : decide ((20 : Int) < (m : Int)) = true := by simp; omega
      have hB : fbB xs ws = false := by simp [fbB, hv]; intro; omega
      rw [fbV, fbN, hB]
      clear hv hB hn hw hA hA1 hm
      go_enter Tryz.func7, Tryz.ntmps7
      go_wp2_with fail
      refine (C0.out _ HA.out).mono ?_
      rintro e w1 ⟨rfl, b1⟩
      have hs1 := b1.size
      go_wp2
      refine bodyPost_ret (v := .tuple #[.slice (some ⟨w1.heap.size, 0, none⟩) 0 0, .slice (some ⟨w1.heap.size + 1, 0, none⟩) 0 0, .bool false]) (by simp [results, Tryz.results7, go_sem]) rfl ?_
      refine ⟨_, [], _, rfl, (ownB_empty _ _ _ _ hs1).below ((Below.refl _ _).alloc (Nat.le_refl _) _), ?_, fun j a q ha hq hk => ?_, (b1.alloc hs1 _).alloc (by simp; omega) _⟩
      · have := own_empty (w1.alloc (.cells #[] 34)) w.heap.size 3 1 (by simp; omega)
        simpa [cells1] using this
      · cases j with
        | zero => simp at ha; subst ha; simp [Value.ownBlock] at hq hk; omega
        | succ j => simp at ha
end Go.Proofs.YtacacibpehnmgaaGreatDoor
