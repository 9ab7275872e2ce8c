/- Stock book: StraightenBook of the program. -/
import Derived.Test.YtacacibpehnmgaaGreatDoorStoR
import Derived.Test.YtacacibpehnmgaaGreatDoorSortI
namespace Go.Proofs.YtacacibpehnmgaaGreatDoor
set_option linter.unusedVariables false
set_option linter.unusedSimpArgs false
open Go.RowKit

def preW (xs : List BR) (k : Nat) : List Int := (xs.take k).flatMap (·.ws)
theorem preW_step {xs : List BR} {k : Nat} {x : BR} (hx : xs[k]? = some x) : preW xs (k + 1) = preW xs k ++ x.ws := by
  simp [preW, List.take_add_one, hx]
theorem preW_all (xs : List BR) : preW xs xs.length = allW xs := by simp [preW, allW]
theorem preW_len {xs : List BR} (h : rowsB xs) : ∀ k : Nat, (preW xs k).length ≤ 12 * k
  | 0 => by simp [preW]
  | k + 1 => by
    cases hx : xs[k]? with
    | none =>
      have := preW_len h k
      have e : preW xs (k + 1) = preW xs k := by simp [preW, List.take_add_one, hx]
      rw [e]; omega
    | some x =>
      have := preW_len h k
      have := (rowB_yes (h x (List.mem_of_getElem? hx))).2.1
      rw [preW_step hx, List.length_append]; omega
/-- What the loops keep: the book under way, and the list of widths beside it. -/
def SbK (W : World) (E EI : Nat) (now : List BR) (us : List Int) (vW vO : Value) (wr : World) : Prop :=
  ∃ vs, OwnB wr W.heap.size E EI vO now vs ∧ wr.ownsRow W.heap.size EI 1 vW us.length (cells1 us) ∧ (∀ (j : Nat) (a : Value) (q : Nat), (vO :: vs)[j]? = some a → a.ownBlock = some q → vW.ownBlock = some q → False) ∧ Below W.heap.size W wr
theorem SbK.start {W wr : World} {E EI : Nat} (hb : Below W.heap.size W wr) : SbK W E EI [] [] (.slice none 0 0) (.slice none 0 0) wr :=
  ⟨[], ownB_nil _ _ _ _, World.ownsRow_nil _ _ _ _, fun j a q ha h h2 => by simp [Value.ownBlock] at h2, hb⟩
theorem SbK.wide {W wr w0 w1 : World} {E EI : Nat} {now : List BR} {us ws : List Int} {vW vO vW' : Value} (h : SbK W E EI now us vW vO wr) (hb : Below wr.heap.size wr w0)
    (o1 : w1.ownsRow W.heap.size EI 1 vW' (us.length + ws.length) (cells1 us ++ cells1 ws)) (g1 : w0.grownBy w1 vW.ownBlock) (d1 : vW'.ownBlock = vW.ownBlock ∨ vW'.ownBlock = some w0.heap.size) : SbK W E EI now (us ++ ws) vW' vO w1 := by
  obtain ⟨vs, ow, o0, hap, hB⟩ := h
  have hs := hb.size
  have hs2 := hB.size
  refine ⟨vs, (ow.below hb).only (Only.of_grown g1) (fun j a k ha hk e => hap j a k ha hk e), by rw [List.length_append, cells1_append]; exact o1, fun j a q ha hq hk => ?_, (hB.trans (hb.mono hs2)).grown g1 (Nat.le_trans hs2 hs) (fun q hq => (o0.lt q hq).1)⟩
  rcases d1 with d | d
  · exact hap j a q ha hq (d.symm.trans hk)
  · rw [d] at hk; injection hk with hk
    have := (ow.lt j a q ha hq).2; omega
theorem sbk_snoc {W wr w0 w1 : World} {E EI : Nat} {now : List BR} {us : List Int} {vW vO vO' : Value} {vs : List Value} {id : Int} (ow : OwnB wr W.heap.size E EI vO now vs) (o1 : wr.ownsRow W.heap.size EI 1 vW us.length (cells1 us))
    (hap : ∀ (j : Nat) (a : Value) (q : Nat), (vO :: vs)[j]? = some a → a.ownBlock = some q → vW.ownBlock = some q → False) (hB : Below W.heap.size W wr) (hb : Below wr.heap.size wr w0)
    (o2 : w1.ownsRow W.heap.size E 2 vO' (now.length + 1) (cellsB now vs ++ [.int .i64 id, .slice none 0 0])) (g2 : w0.grownBy w1 vO.ownBlock) (d2 : vO'.ownBlock = vO.ownBlock ∨ vO'.ownBlock = some w0.heap.size) : SbK W E EI (now ++ [⟨id, []⟩]) us vW vO' w1 := by
  have hs := hb.size
  have hs2 := hB.size
  have hv1 : vW.ownBlock = none ∨ vW.ownBlock ≠ vO.ownBlock := by
    cases e : vW.ownBlock with
    | none => exact .inl rfl
    | some q => exact .inr fun e2 => hap 0 vO q rfl e2.symm e
  refine ⟨vs ++ [.slice none 0 0], ow.snoc (x := ⟨id, []⟩) hb hs2 (World.ownsRow_nil _ _ _ _) o2 g2 d2, (own_below o1 hb).kept g2 hv1, fun j a q ha hq hk => ?_, (hB.trans (hb.mono hs2)).grown g2 (Nat.le_trans hs2 hs) (fun q hq => (ow.lt 0 vO q rfl hq).1)⟩
  cases j with
  | zero =>
    simp at ha; subst ha
    rcases d2 with d | d
    · exact hap 0 vO q rfl (d.symm.trans hq) hk
    · rw [d] at hq; injection hq with hq
      have := (o1.lt q hk).2; omega
  | succ j =>
    simp only [List.getElem?_cons_succ] at ha
    rcases Nat.lt_or_ge j vs.length with hjl | hjl
    · rw [List.getElem?_append_left hjl] at ha
      exact hap (j + 1) a q (by simpa using ha) hq hk
    · rw [List.getElem?_append_right hjl] at ha
      have : a = .slice none 0 0 := by
        have h := (List.getElem?_eq_some_iff.1 ha).1
        have e : j - vs.length = 0 := by simpa using h
        rw [e] at ha; simpa using ha.symm
      subst this; simp [Value.ownBlock] at hq
theorem SbK.turn {W wr w1 : World} {E EI : Nat} {now : List BR} {us us' : List Int} {vW vO : Value} (h : SbK W E EI now us vW vO wr) (hl : us'.length = us.length)
    (o1 : w1.ownsRow W.heap.size EI 1 vW us.length (cells1 us')) (g1 : wr.grownBy w1 vW.ownBlock) : SbK W E EI now us' vW vO w1 := by
  obtain ⟨vs, ow, o0, hap, hB⟩ := h
  refine ⟨vs, ow.only (Only.of_grown g1) (fun j a k ha hk e => hap j a k ha hk e), by rw [hl]; exact o1, hap, hB.grown g1 hB.size (fun q hq => (o0.lt q hq).1)⟩
/-- A new block stays as it is when an older row grows. -/
theorem app_box {wr w1 : World} {lo E EI n : Nat} {vW : Value} {cs : List Value} {c : Array Value} {i : Nat} {z : Value} (o1 : wr.ownsRow lo EI 1 vW n cs) (g1 : (wr.alloc (.cells c E)).grownBy w1 vW.ownBlock) (hz : c[i]? = some z) : w1.cell? ⟨wr.heap.size, i, none⟩ = some z :=
  (World.cell?_of_block (g1.block wr.heap.size (by simp) (fun e => by have := (o1.lt _ e.symm).2; omega))).trans ((World.cell?_alloc_at _ _ _ _ rfl).trans hz)
theorem sbk_hit {W wr w3 w4 : World} {E EI m g n cap : Nat} {now : List BR} {us ws : List Int} {x : BR} {u u' vW : Value} {vs : List Value} (ow : OwnB wr W.heap.size E EI (.slice (some ⟨g, 0, none⟩) n cap) now vs) (o1 : wr.ownsRow W.heap.size EI 1 vW us.length (cells1 us))
    (hap : ∀ (j : Nat) (a : Value) (q : Nat), (.slice (some ⟨g, 0, none⟩) n cap :: vs)[j]? = some a → a.ownBlock = some q → vW.ownBlock = some q → False) (hB : Below W.heap.size W wr) (hn : now.length = n)
    (hx : now[m]? = some x) (hu : vs[m]? = some u) (hb : Below wr.heap.size wr w3)
    (o' : w4.ownsRow W.heap.size EI 1 u' ws.length (cells1 ws)) (g' : w3.grownBy w4 u.ownBlock) (d' : u'.ownBlock = u.ownBlock ∨ u'.ownBlock = some w3.heap.size) :
    SbK W E EI (withV now m ws) us vW (.slice (some ⟨g, 0, none⟩) n cap) (w4.setCell ⟨g, m * 2 + 1, none⟩ u') := by
  have hs := hb.size
  have hs2 := hB.size
  have hml : m < vs.length := (List.getElem?_eq_some_iff.1 hu).1
  have h0 := (ow.below hb).setSlice hn hx hu (ws := ws) (u' := u') o' g' (fun q hq => by
    rcases d' with d | d
    · exact .inl (d.symm.trans hq)
    · right; rw [d] at hq; injection hq with hq; omega)
  have hgl := (ow.lt 0 _ g rfl rfl)
  have hw9 : Only (fun q => q = g) w4 (w4.setCell ⟨g, m * 2 + 1, none⟩ u') := ⟨rfl, rfl, rfl, by simp, fun q _ hq => Below.heap_setCell _ ⟨g, m * 2 + 1, none⟩ _ q hq⟩
  have hv1 : vW.ownBlock = none ∨ vW.ownBlock ≠ u.ownBlock := by
    cases e : vW.ownBlock with
    | none => exact .inl rfl
    | some q => exact .inr fun e2 => hap (m + 1) u q (by simpa using hu) e2.symm e
  refine ⟨vs.set m u', ?_, own_only ((own_below o1 hb).kept g' hv1) hw9 (fun q hq e => hap 0 _ g rfl rfl (by rw [hq, e])), fun j a q ha hq hk => ?_, ((hB.trans (hb.mono hs2)).grown g' (Nat.le_trans hs2 hs) (fun q hq => ?_)).setCell (by show W.heap.size ≤ g; exact hgl.1) _⟩
  · rw [withV_at hx]; exact h0
  · cases j with
    | zero => exact hap 0 a q (by simpa using ha) hq hk
    | succ j =>
      simp only [List.getElem?_cons_succ] at ha
      by_cases e : m = j
      · subst e
        rw [List.getElem?_set_self hml] at ha; injection ha with ha; subst ha
        rcases d' with d | d
        · exact hap (m + 1) u q (by simpa using hu) (d.symm.trans hq) hk
        · rw [d] at hq; injection hq with hq
          have := (o1.lt q hk).2; omega
      · rw [List.getElem?_set_ne e] at ha
        exact hap (j + 1) a q (by simpa using ha) hq hk
  · have := (ow.lt (m + 1) u q (by simpa using hu) hq).1; exact this

theorem sgB_any (id0 : Int) (B : Option Addr) (m cc : Nat) (ws : List Int) (hl : ws.length = m) (z : Int) (b : Nat) (w : World) (hb : w.cell? ⟨b, 0, none⟩ = some (.int .i64 z)) (hB : Rd w B (cells1 ws)) (h20 : m ≤ 1048576) :
    Calls Tryz.prog 45 #[.agg #[.int .i64 id0, .slice B m cc], .pointer (some ⟨b, 0, none⟩)] w (Ret (.bool (roomB ws z)) w) := by
  have hlt := World.block_lt_of_cell? w _ hb
  have HB := Lib.hid hB
  have HL := Lib.hid hl
  clear hl hB
  go_enter Tryz.func45, Tryz.ntmps45
  go_wp2_with fail
  refine (hasRoom_any B m cc ws z _ HL.out (HB.out.alloc _) h20).mono ?_
  rintro e w1 ⟨rfl, b1⟩
  go_wp2
  go_ret
  exact ⟨ret_bool rfl, ((Below.refl _ _).alloc (Nat.le_refl _) _).trans (b1.mono (by simp))⟩

set_option maxHeartbeats 1000000 in
theorem sgIndexFunc_any (A : Option Addr) (n c : Nat) (xs : List BR) (z : Int) (b : Nat) (w : World) (hn : xs.length = n) (hA : RdB w A xs) (h20 : n ≤ 1048577) (hw : rowsB xs) (hb : w.cell? ⟨b, 0, none⟩ = some (.int .i64 z)) :
    Calls Tryz.prog 44 #[.slice A n c, .func (.func 45) #[] #[.pointer (some ⟨b, 0, none⟩)]] w (Ret (.int .i64 (ffV xs z)) w) := by
  have hlt := World.block_lt_of_cell? w _ hb
  have HB := Lib.hid hb
  have HN := Lib.hid hn
  clear hb hn
  go_enter Tryz.func44, Tryz.ntmps44
  go_wp2_with fail
  go_loopw [8, 4, 5] (fun i r _ wr => ∃ (k : Nat), k ≤ n ∧ i = .int .i64 k ∧ r = .int .i64 0 ∧ (∀ (j : Nat) (y : BR), j < k → xs[j]? = some y → roomB y.ws z = false) ∧ Below w.heap.size w wr) (fun i _ _ _ => n - (intOf i).toNat)
  case atStart => exact ⟨0, by omega, rfl, rfl, fun j y hj => by omega, Below.refl _ _⟩
  case round =>
    obtain ⟨k, hk, rfl, rfl, hrel, hb⟩ := hrel
    have HR := Lib.hid hrel
    clear hrel
    by_cases hlt : k < n
    · obtain ⟨x, hxk⟩ : ∃ x, xs[k]? = some x := ⟨xs[k]'(by have := HN.out; omega), List.getElem?_eq_getElem _⟩
      obtain ⟨g, o, B, cc, hAe, hg, c0, c1, -, -, hrd⟩ := (hA.below hb).at hxk
      subst hAe
      have HX := Lib.hid hxk
      have hlx := (rowB_yes (hw x (List.mem_of_getElem? hxk))).2.1
      clear hxk hA
      go_wp2_with fail
      refine (sgB_any x.id B x.ws.length cc x.ws rfl z b _ ((hb.cell (p := ⟨b, 0, none⟩) (by assumption)).trans HB.out) hrd (by omega)).mono ?_
      rintro e w1 ⟨rfl, b1⟩
      have hb1 : Below w.heap.size w w1 := hb.trans (b1.mono hb.size)
      obtain ⟨q, hq⟩ : ∃ q, q = roomB x.ws z := ⟨_, rfl⟩
      rw [← hq]
      have HQ := Lib.hid hq
      clear hq
      cases q with
      | true =>
        go_wp2
        go_ret
        exact ⟨ret_int (idxV_hit (p := fun (y : BR) => roomB y.ws z) HR.out HX.out HQ.out.symm).symm, hb1⟩
      | false =>
        go_wp2
        go_roundw
        case rel =>
          refine ⟨k + 1, by omega, by go_num, rfl, fun j y hj hy => ?_, hb1⟩
          rcases Nat.lt_or_ge j k with h | h
          · exact HR.out j y h hy
          · have : j = k := by omega
            subst this; rw [HX.out] at hy; injection hy with hy; subst hy; exact HQ.out.symm
        case measure => simp [intOf]; omega
    · go_wp2
      go_ret
      exact ⟨ret_int (idxV_miss (p := fun (y : BR) => roomB y.ws z) (fun j y hy => HR.out j y (by have := (List.getElem?_eq_some_iff.1 hy).1; have := HN.out; omega) hy)).symm, hb⟩

set_option maxRecDepth 20000 in
set_option maxHeartbeats 4000000 in
theorem implStraightenBook_any (A : Option Addr) (n c : Nat) (xs : List BR) (w : World) (hn : xs.length = n) (hA : RdB w A xs) (h20 : n ≤ 1048576) (hw : ∀ x ∈ xs, x.ws.length ≤ 1048576) :
    Calls Tryz.prog 14 #[.slice A n c] w (RetBB 34 3 (sbV xs) (sbB xs) w) := by
  have C0 := Lib.hid (fun w h => isStockBook_any A n c xs w hn h (by omega) (hw1 hw))
  have HA := Lib.hid hA
  cases hv : bookB xs with
  | false =>
    rw [hv] at C0
    rw [(sb_no hv).1, (sb_no hv).2]
    clear hv hn hw hA
    go_enter Tryz.func14, Tryz.ntmps14
    go_wp2_with fail
    refine (C0.out _ HA.out).mono ?_
    rintro e w1 ⟨rfl, b1⟩
    go_wp2
    go_ret2
    exact ⟨_, [], rfl, ownB_nil _ _ _ _, b1⟩
  | true =>
    rw [hv] at C0
    have HBV := Lib.hid hv
    have HR := Lib.hid (bookB_rows hv)
    have HN := Lib.hid hn
    have hl8 : n ≤ 8 := by have := (bookB_yes hv).2; omega
    clear hv hn hw hA
    go_enter Tryz.func14, Tryz.ntmps14
    go_wp2_with fail
    refine (C0.out _ HA.out).mono ?_
    rintro e w1 ⟨rfl, b1⟩
    have B1 := Lib.hid b1
    clear b1
    go_wp2_with fail
    go_loopw [4, 5, 16, 7] (fun vW vO j _ wr => ∃ (k : Nat), k ≤ n ∧ j = .int .i64 k ∧ SbK w 34 3 ((emptyV xs).take k) (preW xs k) vW vO wr) (fun _ _ j _ _ => n - (intOf j).toNat)
    case atStart => exact ⟨0, Nat.zero_le _, rfl, SbK.start B1.out⟩
    case round =>
      obtain ⟨k, hk, rfl, hrel⟩ := hrel
      have HRL := Lib.hid hrel
      obtain ⟨vs, ow, o1, hap, hb⟩ := hrel
      have hs := hb.size
      have HOW := Lib.hid ow
      have hpl := preW_len HR.out k
      have HPL := Lib.hid hpl
      by_cases hlt : k < n
      · obtain ⟨x, hxk⟩ : ∃ x, xs[k]? = some x := ⟨xs[k]'(by have := HN.out; omega), List.getElem?_eq_getElem _⟩
        obtain ⟨g, o, B, cc, rfl, hg, c0, c1, -, -, hrd⟩ := (HA.out.below hb).at hxk
        have hlx := (rowB_yes (HR.out x (List.mem_of_getElem? hxk))).2.1
        have HT := Lib.hid (emptyV_take hxk)
        have HP := Lib.hid (preW_step hxk)
        have HYL := Lib.hid (show ((emptyV xs).take k).length = k by rw [List.length_take, emptyV_len]; have := HN.out; omega)
        have HRD := Lib.hid hrd
        have hrow := fun q => own_below o1 ((Below.refl wr.heap.size wr).alloc (Nat.le_refl _) q)
        have HROW := Lib.hid hrow
        have O1 := Lib.hid o1
        have HB := Lib.hid hb
        clear hrow ow o1 hap hxk hrd
        go_wp2_with (first
          | (at_builtin; refine wpList_app _ rfl (.tmp 20) (.tmp 22) 25 rfl w.heap.size 3 _ 1 8 Tryz.underlying25 infoI rfl (by omega) _ (preW xs k).length _ rfl (HROW.out _) B x.ws.length cc (cells1 x.ws) rfl (by simp [cells1]) (HRD.out.alloc _) (oneCell_ints x.ws) (by unfold maxLen; omega) (by omega) (by simp; omega) ?_; intro v1 w1 o1 g1 d1; have e9 : w1.cell? ⟨wr.heap.size, 0, none⟩ = some (.int .i64 x.id) := app_box O1.out g1 rfl; have HM := Lib.hid (HRL.out.wide ((Below.refl wr.heap.size wr).alloc (Nat.le_refl _) _) o1 g1 d1); clear o1 g1 d1; obtain ⟨vs1, ow1, o11, hap1, hb1⟩ := HM.out; have hs11 := hb1.size; have HR2 := Lib.hid (fun q => own_below ow1.2.1 ((Below.refl w1.heap.size w1).alloc (Nat.le_refl _) q)); have OW1 := Lib.hid ow1; have O11 := Lib.hid o11; have HAP1 := Lib.hid hap1; have HB1 := Lib.hid hb1; clear ow1 o11 hap1 hb1; rw [HYL.out] at HR2)
          | (at_builtin; go_must (refine wpList_app _ rfl (.tmp 24) (.tmp 28) 24 rfl w.heap.size 34 _ 2 32 Tryz.underlying24 info34 rfl (by omega) _ k _ rfl (HR2.out _) _ 1 1 [.int .i64 x.id, .slice none 0 0] rfl rfl (rd_new #[.int .i64 x.id, .slice none 0 0] 34 (by simp)) (by intro u hu; simp at hu; rcases hu with rfl | rfl <;> rfl) (by unfold maxLen; omega) (by omega) (by simp; omega) ?_); intro v2 w2 o2 g2 d2))
        have HF := Lib.hid (sbk_snoc OW1.out O11.out HAP1.out HB1.out ((Below.refl w1.heap.size w1).alloc (Nat.le_refl _) _) (by rw [HYL.out]; exact o2) g2 d2)
        clear o2 g2 d2 e9 HR2
        go_roundw
        case rel => exact ⟨k + 1, by omega, by go_num, by rw [HT.out, HP.out]; exact HF.out⟩
        case measure => simp [intOf]; omega
      · have hd : decide (k < n) = false := by simpa using hlt
        have hkn : k = xs.length := by have := HN.out; omega
        obtain ⟨AW, cW, rfl⟩ := own_form o1
        have hw0 := preW_all xs
        rw [← hkn] at hw0
        have HL := Lib.hid HRL.out
        rw [hw0, List.take_of_length_le (by rw [emptyV_len]; omega)] at HL
        rw [hw0] at o1 hpl ⊢
        have hlen : (allW xs).length ≤ 1048576 := by omega
        have CS := Lib.hid (fun w1 (h : w1.ownsRow w.heap.size 3 1 (.slice AW (allW xs).length cW) (allW xs).length (cells1 (allW xs))) => sortInt_any w.heap.size _ (.slice AW (allW xs).length cW) (allW xs) w1 h rfl hlen)
        have O1 := Lib.hid o1
        clear ow o1 hap hkn HRL hw0
        go_wp2_with fail
        refine (CS.out _ O1.out).mono ?_
        rintro e w2 ⟨rfl, o2, g2⟩
        have HL2 := Lib.hid (HL.out.turn (List.length_mergeSort _) o2 g2)
        have O2 := Lib.hid o2
        clear o2 g2
        go_wp2_with fail
        refine (revInt_any w.heap.size _ _ _ _ O2.out (List.length_mergeSort _) hlen).mono ?_
        rintro e w3 ⟨rfl, o3, g3⟩
        rw [desc_sorted HR.out] at o3
        have hdl : (descV xs).length = (allW xs).length := by rw [← desc_sorted HR.out, List.length_reverse, List.length_mergeSort]
        have HL3 : Hid (SbK w 34 3 (emptyV xs) (descV xs) (.slice AW (allW xs).length cW) u5 w3) := Lib.hid (HL2.out.turn (by rw [hdl, List.length_mergeSort]) (by rw [List.length_mergeSort]; exact o3) g3)
        have HDL := Lib.hid hdl
        obtain ⟨vs3, ow3, o13, hap3, hb3⟩ := HL3.out
        have hf5 := ow3.2.1
        rw [emptyV_len] at hf5
        obtain ⟨AO, cO, rfl⟩ := own_form hf5
        rw [← HDL.out] at HL3 ⊢
        have hdl8 : (descV xs).length ≤ 96 := by have := HDL.out; omega
        clear o3 g3 hdl hf5 ow3 o13 hap3 hb3 hpl hlen hs hd hlt hk HPL
        go_wp2_with fail
        go_loopw [37, 9, 10] (fun q _ _ wr => ∃ (j : Nat) (now : List BR), j ≤ (descV xs).length ∧ q = .int .i64 j ∧ sgS (emptyV xs) ((descV xs).take j) = some now ∧ SbK w 34 3 now (descV xs) (.slice AW (descV xs).length cW) (.slice AO xs.length cO) wr) (fun q _ _ _ => (descV xs).length - (intOf q).toNat)
        case atStart => exact ⟨0, emptyV xs, Nat.zero_le _, rfl, rfl, HL3.out⟩
        case round =>
          obtain ⟨j, now, hj, rfl, hnow, hrel⟩ := hrel
          have HRL := Lib.hid hrel
          have HNOW := Lib.hid hnow
          obtain ⟨vs, ow, o1, hap, hb⟩ := hrel
          have hs := hb.size
          obtain ⟨hrn, hnl⟩ := sgS_inv _ (emptyV_rows xs) hnow
          rw [emptyV_len] at hnl
          have HRN := Lib.hid hrn
          have HNL := Lib.hid hnl
          have HOW := Lib.hid ow
          have HO1 := Lib.hid o1
          have HAP := Lib.hid hap
          have HB := Lib.hid hb
          clear hnow ow o1 hap hb hrn hnl
          by_cases hlt : j < (descV xs).length
          · obtain ⟨z, hzk⟩ : ∃ z, (descV xs)[j]? = some z := ⟨(descV xs)[j], List.getElem?_eq_getElem hlt⟩
            obtain ⟨gw, ogw, rfl, hgw, e0⟩ := (Rd.of_own HO1.out).at1 hzk
            have HZ := Lib.hid hzk
            have hxl : xs.length ≤ 1048577 := by have := HN.out; omega
            obtain ⟨t, ht⟩ : ∃ t, t = ffV now z := ⟨_, rfl⟩
            have CI := Lib.hid (fun w h hb => sgIndexFunc_any AO xs.length cO now z wr.heap.size w HNL.out h hxl HRN.out hb)
            rw [← ht] at CI
            have HT := Lib.hid ht
            have HBOX := Lib.hid (show (wr.alloc (.cells #[.int .i64 z] 3)).cell? ⟨wr.heap.size, 0, none⟩ = some (.int .i64 z) from World.cell?_alloc_at _ _ _ _ rfl)
            clear ht hzk
            go_wp2_with fail
            refine (CI.out _ (HOW.out.rd2.alloc _) HBOX.out).mono ?_
            rintro e w4 ⟨rfl, b4⟩
            have B4 := Lib.hid (((Below.refl wr.heap.size wr).alloc (Nat.le_refl _) _).trans (b4.mono (by simp)))
            have hbx := (b4.cell (p := ⟨wr.heap.size, 0, none⟩) (by simp)).trans HBOX.out
            have hs4 := B4.out.size
            have hs5 := b4.size
            clear b4
            by_cases ht0 : t < 0
            · have hd2 : decide (t < 0) = true := by simpa using ht0
              have HSN : Hid (sbO xs = none) := by
                refine Lib.hid ?_
                have e : descV xs = (descV xs).take j ++ z :: (descV xs).drop (j + 1) := by rw [← drop_cons HZ.out, List.take_append_drop]
                rw [sbO, e]
                exact sgS_none HNOW.out (by have := HT.out; omega)
              go_wp2
              rw [(sb_none HSN.out).1, (sb_none HSN.out).2]
              go_ret2
              exact ⟨_, [], rfl, ownB_nil _ _ _ _, HB.out.trans (B4.out.mono hs)⟩
            · have hd2 : decide (t < 0) = false := by simpa using ht0
              obtain ⟨m, x, hm, hml, hx, hrm⟩ := ff_at (ys := now) (z := z) (by have := HT.out; omega)
              obtain rfl : t = (m : Int) := by rw [HT.out, hm]
              have hlx := (rowB_yes (HRN.out x (List.mem_of_getElem? hx))).2.1
              have HX := Lib.hid hx
              have HM := Lib.hid hm
              have ow4 := HOW.out.below B4.out
              have hrw := ow4.2.1
              rw [HNL.out] at hrw
              have hmx : m < xs.length := by have := HNL.out; omega
              obtain ⟨gg, rfl⟩ := own_somei hrw (by omega)
              obtain ⟨u, hu⟩ : ∃ u, vs[m]? = some u := ⟨vs[m]'(by have := ow4.1; omega), List.getElem?_eq_getElem _⟩
              have hui := ow4.2.2.1 m x u hx hu
              obtain ⟨Au, cu, rfl⟩ := own_form hui
              have eu : w4.cell? ⟨gg, m * 2 + 1, none⟩ = some (.slice Au x.ws.length cu) := by rw [hrw.cellAt _ (by omega)]; exact (cellsB_get hx hu).2
              have hgg : w.heap.size ≤ gg ∧ gg < w4.heap.size := ow4.lt 0 _ gg rfl rfl
              have HROW := Lib.hid (fun q => own_below hui ((Below.refl _ _).alloc (Nat.le_refl _) q))
              have HR3 := Lib.hid (fun q => own_below hrw ((Below.refl w4.heap.size w4).alloc (Nat.le_refl _) q))
              have HNE := Lib.hid (ow4.2.2.2.ne (i := 0) (j := m + 1) (by omega) rfl (by simpa using hu))
              have HU := Lib.hid hu
              have hm1 : (m : Int) < (xs.length : Int) := by omega
              have hm0 : (0 : Int) ≤ (m : Int) := by omega
              clear hm hml hx hrm ow4 hu hui hrw e0
              go_wp2_with fail
              go_region_law (refine step_app rfl (.tmp 52) (.tmp 54) 25 rfl w.heap.size 3 _ 1 8 Tryz.underlying25 infoI rfl (by omega) (.slice Au x.ws.length cu) x.ws.length (cells1 x.ws) (by simp [Act.eval, Act.put]) (by exact HROW.out (.cells #[.int .i64 z] 3)) (some ⟨w4.heap.size, 0, none⟩) 1 1 [.int .i64 z] (by simp [Act.eval, Act.put]) rfl (rd_new #[.int .i64 z] 3 rfl).drew (oneCell_ints [z]) (by unfold maxLen; omega) (by omega) (by simp; omega) ?_; intro v5 w5 o5 g5 d5; obtain ⟨A5, c5, rfl⟩ := own_form o5; have hr5 := (show (w4.alloc (.cells #[.int .i64 z] 3)).drew.ownsRow w.heap.size 34 2 _ _ _ from HR3.out (.cells #[.int .i64 z] 3)).kept g5 HNE.out; obtain ⟨z5, y5⟩ : ∃ zz, w5.cell? ⟨gg, m * 2 + 1, none⟩ = some zz := ⟨_, (hr5.cellAt (m * 2 + 1) (by omega)).trans (List.getElem?_eq_getElem (by rw [hr5.1]; omega))⟩; have f5 := hr5.frozenAt (m * 2 + 1); have DD := Lib.hid d5; have GG := Lib.hid g5; have OO := Lib.hid o5; clear hr5 d5 g5 o5)
              all_goals go_goals
              all_goals (
                have o' := OO.out
                rw [cells1_snoc] at o'
                have HF := Lib.hid (sbk_hit (ws := x.ws ++ [z]) HOW.out HO1.out HAP.out HB.out HNL.out HX.out HU.out (B4.out.trans (((Below.refl w4.heap.size w4).alloc (Nat.le_refl _) _).drew.mono hs4)) (by simpa using o') GG.out DD.out)
                have HNX : Hid (sgS (emptyV xs) ((descV xs).take (j + 1)) = some (withV now m (x.ws ++ [z]))) := by
                  refine Lib.hid ?_
                  rw [List.take_add_one, HZ.out, Option.toList, sgS_snoc HNOW.out, HM.out, if_neg (by omega), atB_at HX.out]
                clear o' OO GG DD HROW HR3 HNE eu
                go_wp2_with fail
                go_roundw
                case rel => exact ⟨j + 1, _, by omega, by go_num, HNX.out, HF.out⟩
                case measure => simp [intOf]; omega)
          · have hjl : j = (descV xs).length := by omega
            rw [hjl, List.take_length] at HNOW
            have HF := Lib.hid (sb_some HBV.out HNOW.out)
            have hd4 : decide (j < (descV xs).length) = false := by simpa using hlt
            clear hjl
            go_wp2
            rw [HF.out.1, HF.out.2]
            go_ret2
            exact ⟨_, vs, rfl, HOW.out, HB.out⟩
end Go.Proofs.YtacacibpehnmgaaGreatDoor
