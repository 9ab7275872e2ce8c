/- Approvals: the reading of marks; SendItems. -/
import Derived.Test.YtogjcnfhfpgbfaaAppC
import Derived.Test.YtogjcnfhfpgbfaaAppY
import Derived.OwnWalk
import Derived.IntWalk
namespace Go.Proofs.Ytogjcnfhfpgbfaa
set_option linter.unusedVariables false
set_option linter.unusedSimpArgs false
open Go.RowKit Go.Lib


def RetAIB (E EI : Nat) (xs : List AR) (i : Int) (b : Bool) (W : World) : Ending → World → Prop := fun e w' => ∃ v vs, e = .returned (.tuple #[v, .int .i64 i, .bool b]) ∧ OwnA w' W.heap.size E EI v xs vs ∧ Below W.heap.size W w'
def RetAB (E EI : Nat) (xs : List AR) (b : Bool) (W : World) : Ending → World → Prop := fun e w' => ∃ v vs, e = .returned (.tuple #[v, .bool b]) ∧ OwnA w' W.heap.size E EI v xs vs ∧ Below W.heap.size W w'
theorem good_small {xs : List AR} (h : goodA xs = true) : xs.length ≤ 1048576 ∧ (∀ x ∈ xs, smA x) ∧ szA xs ≤ 5242880 := by
  have hx : ∀ x ∈ xs, x.client.size ≤ 10 ∧ x.items.length ≤ 999 ∧ x.kept.length ≤ 999 := fun x hx => by
    have h1 := goodA_ones h x hx
    have h2 := h1
    rw [oneA_impl] at h2
    simp only [Bool.and_eq_true] at h2
    exact ⟨(wordB_len h2.2.1).2, ss_999 (one_items h1).1 (one_items h1).2, ss_999 (one_kept h1).1 (one_kept h1).2⟩
  have hn := (goodA_yes h).2
  have key : ∀ ys : List AR, (∀ x ∈ ys, x.client.size ≤ 10 ∧ x.items.length ≤ 999 ∧ x.kept.length ≤ 999) → szA ys ≤ 2002 * ys.length := by
    intro ys
    induction ys with
    | nil => intro _; simp [szA]
    | cons y ys ih =>
      intro hy
      have h1 := ih (fun x hx => hy x (List.mem_cons_of_mem _ hx))
      have h2 := hy y (by simp)
      simp only [szA, List.length_cons]; omega
  have := key xs hx
  refine ⟨by omega, fun x h => ?_, by omega⟩
  have := hx x h
  exact ⟨by omega, by omega, by omega⟩
theorem small_nil : ([] : List AR).length ≤ 1048576 ∧ (∀ x ∈ ([] : List AR), smA x) ∧ szA [] ≤ 5242880 := ⟨by simp, fun x h => by simp at h, by simp [szA]⟩

def siId (xs : List AR) : Int := match xs[xs.length - 1]? with
  | some y => wrap64 (y.id + 1)
  | none => 1
def siX (xs : List AR) (cl : ByteArray) (day : Int) (zs : List Int) : AR := ⟨siId xs, cl, day, zs, [], -1⟩
def siL (xs : List AR) (cl : ByteArray) (day : Int) (zs : List Int) : List AR := xs ++ [siX xs cl day zs]
noncomputable def siB (xs : List AR) (cl : ByteArray) (day : Int) (zs : List Int) : Bool := goodA xs && goodA (siL xs cl day zs)
noncomputable def siV (xs : List AR) (cl : ByteArray) (day : Int) (zs : List Int) : List AR := if siB xs cl day zs = true then siL xs cl day zs else []
noncomputable def siN (xs : List AR) (cl : ByteArray) (day : Int) (zs : List Int) : Int := if siB xs cl day zs = true then siId xs else 0
theorem si_small (xs : List AR) (cl : ByteArray) (day : Int) (zs : List Int) : (siV xs cl day zs).length ≤ 1048576 ∧ (∀ x ∈ siV xs cl day zs, smA x) ∧ szA (siV xs cl day zs) ≤ 5242880 := by
  unfold siV
  split
  · rename_i h
    simp only [siB, Bool.and_eq_true] at h
    exact good_small h.2
  · exact small_nil
theorem smallA_n {xs : List AR} (h : xs.length ≤ 1048576 ∧ (∀ x ∈ xs, smA x) ∧ szA xs ≤ 5242880) : xs.length ≤ 1048576 := h.1
theorem smallA_w {xs : List AR} (h : xs.length ≤ 1048576 ∧ (∀ x ∈ xs, smA x) ∧ szA xs ≤ 5242880) : ∀ x ∈ xs, smA x := h.2.1
theorem smallA_s {xs : List AR} (h : xs.length ≤ 1048576 ∧ (∀ x ∈ xs, smA x) ∧ szA xs ≤ 5242880) : szA xs ≤ 5242880 := h.2.2

set_option maxRecDepth 20000 in
set_option maxHeartbeats 4000000 in
theorem specSendItems_any (A : Option Addr) (n c : Nat) (xs : List AR) (cl : ByteArray) (day : Int) (A3 : Option Addr) (n3 c3 : Nat) (zs : List Int) (w : World) (hn : xs.length = n) (hA : RdA w A xs) (h20 : n ≤ 1048576) (hw : ∀ x ∈ xs, smA x) (hcap : n ≤ c ∧ c ≤ maxLen) (hcl : (cl.size : Int) ≤ 1048576) (hn3 : zs.length = n3) (hA3 : Rd w A3 (cells1 zs)) (h203 : n3 ≤ 1048576) :
    Calls Try.prog 7 #[.slice A n c, .string cl, .int .i64 day, .slice A3 n3 c3] w (RetAIB 41 3 (siV xs cl day zs) (siN xs cl day zs) (siB xs cl day zs) w) := by
  subst hn3
  have C0 := Lib.hid (fun w h => l28Good_any A n c xs w hn h (by omega) hw)
  have HSM : Hid (∀ x ∈ siL xs cl day zs, smA x) := Lib.hid (fun x hx => by
    rcases List.mem_append.1 hx with h | h
    · exact hw x h
    · simp at h; subst h; exact ⟨by show cl.size ≤ 1048576; omega, h203, by show (0 : Nat) ≤ 1048576; omega⟩)
  have HLN : Hid ((siL xs cl day zs).length = n + 1) := Lib.hid (by simp [siL, hn])
  have C1 := Lib.hid (fun A' c' w h => l28Good_any A' (n + 1) c' (siL xs cl day zs) w HLN.out h (by omega) HSM.out)
  have hxl : xs.length ≤ 1048576 := by omega
  have CC := Lib.hid (fun w h => l28Own_any A n c xs w hn h h20 hw)
  have HA := Lib.hid hA
  have HA3 := Lib.hid hA3
  have HN := Lib.hid hn
  have HCM : Hid (cl.size ≤ maxLen) := Lib.hid (by unfold maxLen; omega)
  obtain ⟨V, hV⟩ : ∃ V, V = siV xs cl day zs := ⟨_, rfl⟩
  obtain ⟨N, hN⟩ : ∃ N, N = siN xs cl day zs := ⟨_, rfl⟩
  obtain ⟨Q, hQ⟩ : ∃ Q, Q = siB xs cl day zs := ⟨_, rfl⟩
  rw [← hV, ← hN, ← hQ]
  have HV := Lib.hid hV
  have HNN := Lib.hid hN
  have HQ := Lib.hid hQ
  clear hV hN hQ hn hA hA3 hw hcap
  have HB0 := Lib.hid (Below.refl w.heap.size w)
  rcases Nat.eq_zero_or_pos n with hn0 | hpos
  · subst hn0
    have HZ : Hid (siId xs = 1) := Lib.hid (by have := List.eq_nil_of_length_eq_zero HN.out; subst this; rfl)
    have HXE : Hid (xs ++ [⟨1, cl, day, zs, [], -1⟩] = siL xs cl day zs) := Lib.hid (by rw [siL, siX, HZ.out])
    go_enter Try.func7, Try.ntmps7
    go_wp2_with fail
    refine (CC.out _ (HA.out.below HB0.out)).mono ?_
    rintro e w4 ⟨v, vs, rfl, o4, b4⟩
    obtain ⟨A4, c4, rfl⟩ := own_form o4.2.1
    have HO4 := Lib.hid (o4.mono HB0.out.size)
    have HB4 := Lib.hid (HB0.out.trans (b4.mono HB0.out.size))
    clear o4 b4
    go_wp2_with fail
    refine (l1Own_any A3 _ c3 zs _ rfl (HA3.out.below HB4.out) h203).mono ?_
    rintro e w5 ⟨u, rfl, o5, b5⟩
    obtain ⟨A5, c5, rfl⟩ := own_form o5
    have HO5 := Lib.hid o5
    have B5 := Lib.hid b5
    have HB5 := Lib.hid (HB4.out.trans (b5.mono HB4.out.size))
    have hs4 := HB4.out.size
    have hs5 := HB5.out.size
    clear o5 b5
    have HRW := Lib.hid (fun q => own_below HO4.out.2.1 (B5.out.alloc B5.out.size q))
    go_wp2_with (at_builtin; go_must (refine wpList_app _ rfl (.tmp 26) (.tmp 33) 24 rfl w.heap.size 41 _ 6 88 Try.underlying24 info41 rfl (by omega) _ _ _ rfl (HRW.out _) _ 1 1 [.int .i64 1, .string cl, .int .i64 day, .slice A5 zs.length c5, .slice none 0 0, .int .i64 (-1)] rfl rfl (rd_new #[.int .i64 1, .string cl, .int .i64 day, .slice A5 zs.length c5, .slice none 0 0, .int .i64 (-1)] 41 (by simp)) (by intro u hu; simp at hu; rcases hu with rfl | rfl | rfl | rfl | rfl | rfl <;> rfl) (by unfold maxLen; omega) (by omega) (by simp; omega) ?_); intro v' w' o' g' d')
    have hfin := HO4.out.snoc (x := ⟨1, cl, day, zs, [], -1⟩) (B5.out.alloc B5.out.size _) hs4 (own_below HO5.out ((Below.refl _ _).alloc (Nat.le_refl _) _)) (World.ownsRow_nil _ _ _ _) (fun k h1 h2 => by cases h2) HCM.out o' g' d'
    have HB6 := Lib.hid ((HB5.out.alloc HB5.out.size _).trans (below_app (HRW.out _) g' (by simp; omega) (Nat.le_refl _)))
    rw [HXE.out] at hfin
    obtain ⟨A6, c6, rfl⟩ := own_form hfin.2.1
    have HCP := Lib.hid (own_cap hfin.2.1)
    have HF6 := Lib.hid hfin
    have hs6 := HB6.out.size
    clear hfin o' g' d'
    rw [HLN.out] at HCP HF6 ⊢
    cases h0 : goodA xs with
    | false =>
      rw [h0] at C0
      have HF : Hid (siB xs cl day zs = false) := Lib.hid (by simp only [siB, h0, Bool.false_and])
      clear h0
      go_wp2_with fail
      refine (C0.out _ (HA.out.below HB6.out)).mono ?_
      rintro e w7 ⟨rfl, b7⟩
      have HB7 := Lib.hid (HB6.out.trans (b7.mono HB6.out.size))
      have hs7 := HB7.out.size
      go_wp2
      go_ret3
      have e0 : V = [] := by rw [HV.out, siV, if_neg (by rw [HF.out]; simp)]
      have e1 : N = 0 := by rw [HNN.out, siN, if_neg (by rw [HF.out]; simp)]
      subst e0; subst e1
      rw [show Q = false by rw [HQ.out, HF.out]]
      exact ⟨_, [], rfl, ownA_empty _ _ _ _ hs7, HB7.out.alloc hs7 _⟩
    | true =>
      rw [h0] at C0
      have HG := Lib.hid h0
      clear h0
      go_wp2_with fail
      refine (C0.out _ (HA.out.below HB6.out)).mono ?_
      rintro e w7 ⟨rfl, b7⟩
      have bb := Lib.hid b7
      have HB7 := Lib.hid (HB6.out.trans (b7.mono HB6.out.size))
      clear b7
      cases h1 : goodA (siL xs cl day zs) with
      | false =>
        rw [h1] at C1
        have HF : Hid (siB xs cl day zs = false) := Lib.hid (by simp only [siB, HG.out, h1, Bool.true_and])
        clear h1
        go_wp2_with fail
        refine (C1.out A6 c6 _ (HF6.out.rd2.below bb.out)).mono ?_
        rintro e w8 ⟨rfl, b8⟩
        have HB8 := Lib.hid (HB7.out.trans (b8.mono HB7.out.size))
        have hs8 := HB8.out.size
        go_wp2
        go_ret3
        have e0 : V = [] := by rw [HV.out, siV, if_neg (by rw [HF.out]; simp)]
        have e1 : N = 0 := by rw [HNN.out, siN, if_neg (by rw [HF.out]; simp)]
        subst e0; subst e1
        rw [show Q = false by rw [HQ.out, HF.out]]
        exact ⟨_, [], rfl, ownA_empty _ _ _ _ hs8, HB8.out.alloc hs8 _⟩
      | true =>
        rw [h1] at C1
        have HF : Hid (siB xs cl day zs = true) := Lib.hid (by simp only [siB, HG.out, h1, Bool.true_and])
        clear h1
        go_wp2_with fail
        refine (C1.out A6 c6 _ (HF6.out.rd2.below bb.out)).mono ?_
        rintro e w8 ⟨rfl, b8⟩
        have HB8 := Lib.hid (HB7.out.trans (b8.mono HB7.out.size))
        have HF8 := Lib.hid ((HF6.out.below bb.out).below b8)
        clear b8
        go_wp2
        go_ret3
        have e0 : V = siL xs cl day zs := by rw [HV.out, siV, if_pos HF.out]
        have e1 : N = 1 := by rw [HNN.out, siN, if_pos HF.out, HZ.out]
        rw [show Q = true by rw [HQ.out, HF.out], e0, e1]
        exact ⟨_, _, rfl, HF8.out, HB8.out⟩
  · obtain ⟨m, rfl⟩ : ∃ m, n = m + 1 := ⟨n - 1, by omega⟩
    obtain ⟨y, hym⟩ : ∃ y, xs[m]? = some y := ⟨xs[m]'(by have := HN.out; omega), List.getElem?_eq_getElem _⟩
    obtain ⟨Z, hZ⟩ : ∃ Z, Z = wrap64 (y.id + 1) := ⟨_, rfl⟩
    have HZ : Hid (siId xs = Z) := Lib.hid (by rw [siId, show xs.length - 1 = m by have := HN.out; omega, hym, hZ])
    have hz1 : IntKind.i64.wrap (y.id + 1) = Z := by rw [hZ]; exact IntWalk.i64_left (y.id + 1)
    have hz2 : wrap64 (y.id + 1) = Z := hZ.symm
    clear hZ
    have HXE : Hid (xs ++ [⟨Z, cl, day, zs, [], -1⟩] = siL xs cl day zs) := Lib.hid (by rw [siL, siX, HZ.out])
    obtain ⟨g, o, B, cb, D, cd, hAe, hrow⟩ := (HA.out.below HB0.out).at hym
    subst hAe
    obtain ⟨hg, -, q0, -, -, -, -, -, -, -, -, -, -, -⟩ := hrow
    clear hym
    go_enter Try.func7, Try.ntmps7
    go_wp2_with fail
    refine (CC.out _ (HA.out.below HB0.out)).mono ?_
    rintro e w4 ⟨v, vs, rfl, o4, b4⟩
    obtain ⟨A4, c4, rfl⟩ := own_form o4.2.1
    have HO4 := Lib.hid (o4.mono HB0.out.size)
    have HB4 := Lib.hid (HB0.out.trans (b4.mono HB0.out.size))
    clear o4 b4
    go_wp2_with fail
    refine (l1Own_any A3 _ c3 zs _ rfl (HA3.out.below HB4.out) h203).mono ?_
    rintro e w5 ⟨u, rfl, o5, b5⟩
    obtain ⟨A5, c5, rfl⟩ := own_form o5
    have HO5 := Lib.hid o5
    have B5 := Lib.hid b5
    have HB5 := Lib.hid (HB4.out.trans (b5.mono HB4.out.size))
    have hs4 := HB4.out.size
    have hs5 := HB5.out.size
    clear o5 b5
    have HRW := Lib.hid (fun q => own_below HO4.out.2.1 (B5.out.alloc B5.out.size q))
    go_wp2_with (at_builtin; go_must (refine wpList_app _ rfl (.tmp 26) (.tmp 33) 24 rfl w.heap.size 41 _ 6 88 Try.underlying24 info41 rfl (by omega) _ _ _ rfl (HRW.out _) _ 1 1 [.int .i64 Z, .string cl, .int .i64 day, .slice A5 zs.length c5, .slice none 0 0, .int .i64 (-1)] rfl rfl (rd_new #[.int .i64 Z, .string cl, .int .i64 day, .slice A5 zs.length c5, .slice none 0 0, .int .i64 (-1)] 41 (by simp)) (by intro u hu; simp at hu; rcases hu with rfl | rfl | rfl | rfl | rfl | rfl <;> rfl) (by unfold maxLen; omega) (by omega) (by simp; omega) ?_); intro v' w' o' g' d')
    have hfin := HO4.out.snoc (x := ⟨Z, cl, day, zs, [], -1⟩) (B5.out.alloc B5.out.size _) hs4 (own_below HO5.out ((Below.refl _ _).alloc (Nat.le_refl _) _)) (World.ownsRow_nil _ _ _ _) (fun k h1 h2 => by cases h2) HCM.out o' g' d'
    have HB6 := Lib.hid ((HB5.out.alloc HB5.out.size _).trans (below_app (HRW.out _) g' (by simp; omega) (Nat.le_refl _)))
    rw [HXE.out] at hfin
    obtain ⟨A6, c6, rfl⟩ := own_form hfin.2.1
    have HCP := Lib.hid (own_cap hfin.2.1)
    have HF6 := Lib.hid hfin
    have hs6 := HB6.out.size
    clear hfin o' g' d'
    rw [HLN.out] at HCP HF6 ⊢
    cases h0 : goodA xs with
    | false =>
      rw [h0] at C0
      have HF : Hid (siB xs cl day zs = false) := Lib.hid (by simp only [siB, h0, Bool.false_and])
      clear h0
      go_wp2_with fail
      refine (C0.out _ (HA.out.below HB6.out)).mono ?_
      rintro e w7 ⟨rfl, b7⟩
      have HB7 := Lib.hid (HB6.out.trans (b7.mono HB6.out.size))
      have hs7 := HB7.out.size
      go_wp2
      go_ret3
      have e0 : V = [] := by rw [HV.out, siV, if_neg (by rw [HF.out]; simp)]
      have e1 : N = 0 := by rw [HNN.out, siN, if_neg (by rw [HF.out]; simp)]
      subst e0; subst e1
      rw [show Q = false by rw [HQ.out, HF.out]]
      exact ⟨_, [], rfl, ownA_empty _ _ _ _ hs7, HB7.out.alloc hs7 _⟩
    | true =>
      rw [h0] at C0
      have HG := Lib.hid h0
      clear h0
      go_wp2_with fail
      refine (C0.out _ (HA.out.below HB6.out)).mono ?_
      rintro e w7 ⟨rfl, b7⟩
      have bb := Lib.hid b7
      have HB7 := Lib.hid (HB6.out.trans (b7.mono HB6.out.size))
      clear b7
      cases h1 : goodA (siL xs cl day zs) with
      | false =>
        rw [h1] at C1
        have HF : Hid (siB xs cl day zs = false) := Lib.hid (by simp only [siB, HG.out, h1, Bool.true_and])
        clear h1
        go_wp2_with fail
        refine (C1.out A6 c6 _ (HF6.out.rd2.below bb.out)).mono ?_
        rintro e w8 ⟨rfl, b8⟩
        have HB8 := Lib.hid (HB7.out.trans (b8.mono HB7.out.size))
        have hs8 := HB8.out.size
        go_wp2
        go_ret3
        have e0 : V = [] := by rw [HV.out, siV, if_neg (by rw [HF.out]; simp)]
        have e1 : N = 0 := by rw [HNN.out, siN, if_neg (by rw [HF.out]; simp)]
        subst e0; subst e1
        rw [show Q = false by rw [HQ.out, HF.out]]
        exact ⟨_, [], rfl, ownA_empty _ _ _ _ hs8, HB8.out.alloc hs8 _⟩
      | true =>
        rw [h1] at C1
        have HF : Hid (siB xs cl day zs = true) := Lib.hid (by simp only [siB, HG.out, h1, Bool.true_and])
        clear h1
        go_wp2_with fail
        refine (C1.out A6 c6 _ (HF6.out.rd2.below bb.out)).mono ?_
        rintro e w8 ⟨rfl, b8⟩
        have HB8 := Lib.hid (HB7.out.trans (b8.mono HB7.out.size))
        have HF8 := Lib.hid ((HF6.out.below bb.out).below b8)
        clear b8
        go_wp2
        go_ret3
        have e0 : V = siL xs cl day zs := by rw [HV.out, siV, if_pos HF.out]
        have e1 : N = Z := by rw [HNN.out, siN, if_pos HF.out, HZ.out]
        rw [show Q = true by rw [HQ.out, HF.out], e0, e1]
        exact ⟨_, _, rfl, HF8.out, HB8.out⟩

set_option maxRecDepth 20000 in
set_option maxHeartbeats 4000000 in
theorem implSendItems_any (A : Option Addr) (n c : Nat) (xs : List AR) (cl : ByteArray) (day : Int) (A3 : Option Addr) (n3 c3 : Nat) (zs : List Int) (w : World) (hn : xs.length = n) (hA : RdA w A xs) (h20 : n ≤ 1048576) (hw : ∀ x ∈ xs, smA x) (hcap : n ≤ c ∧ c ≤ maxLen) (hcl : (cl.size : Int) ≤ 1048576) (hn3 : zs.length = n3) (hA3 : Rd w A3 (cells1 zs)) (h203 : n3 ≤ 1048576) :
    Calls Try.prog 6 #[.slice A n c, .string cl, .int .i64 day, .slice A3 n3 c3] w (RetAIB 41 3 (siV xs cl day zs) (siN xs cl day zs) (siB xs cl day zs) w) := by
  subst hn3
  have C0 := Lib.hid (fun w h => areApprovals_any A n c xs w hn h (by omega) hw hcap)
  have HSM : Hid (∀ x ∈ siL xs cl day zs, smA x) := Lib.hid (fun x hx => by
    rcases List.mem_append.1 hx with h | h
    · exact hw x h
    · simp at h; subst h; exact ⟨by show cl.size ≤ 1048576; omega, h203, by show (0 : Nat) ≤ 1048576; omega⟩)
  have HLN : Hid ((siL xs cl day zs).length = n + 1) := Lib.hid (by simp [siL, hn])
  have C1 := Lib.hid (fun A' c' w h hc => areApprovals_any A' (n + 1) c' (siL xs cl day zs) w HLN.out h (by omega) HSM.out hc)
  have hxl : xs.length ≤ 1048576 := by omega
  have CC := Lib.hid (fun w h => copyApprovals_any A n c xs w hn h h20 hw)
  have HA := Lib.hid hA
  have HA3 := Lib.hid hA3
  have HN := Lib.hid hn
  have HCM : Hid (cl.size ≤ maxLen) := Lib.hid (by unfold maxLen; omega)
  obtain ⟨V, hV⟩ : ∃ V, V = siV xs cl day zs := ⟨_, rfl⟩
  obtain ⟨N, hN⟩ : ∃ N, N = siN xs cl day zs := ⟨_, rfl⟩
  obtain ⟨Q, hQ⟩ : ∃ Q, Q = siB xs cl day zs := ⟨_, rfl⟩
  rw [← hV, ← hN, ← hQ]
  have HV := Lib.hid hV
  have HNN := Lib.hid hN
  have HQ := Lib.hid hQ
  clear hV hN hQ hn hA hA3 hw hcap
  cases h0 : goodA xs with
  | false =>
    rw [h0] at C0
    have HF : Hid (siB xs cl day zs = false) := Lib.hid (by simp only [siB, h0, Bool.false_and])
    clear h0
    go_enter Try.func6, Try.ntmps6
    go_wp2_with fail
    refine (C0.out _ HA.out).mono ?_
    rintro e w1 ⟨rfl, b1⟩
    go_wp2
    go_ret3
    have e0 : V = [] := by rw [HV.out, siV, if_neg (by rw [HF.out]; simp)]
    have e1 : N = 0 := by rw [HNN.out, siN, if_neg (by rw [HF.out]; simp)]
    subst e0; subst e1
    rw [show Q = false by rw [HQ.out, HF.out]]
    exact ⟨_, [], rfl, ownA_nil _ _ _ _, b1⟩
  | true =>
    rw [h0] at C0
    have HG := Lib.hid h0
    clear h0
    go_enter Try.func6, Try.ntmps6
    go_wp2_with fail
    refine (C0.out _ HA.out).mono ?_
    rintro e w1 ⟨rfl, b1⟩
    have HB0 := Lib.hid b1
    clear b1
    rcases Nat.eq_zero_or_pos n with hn0 | hpos
    · subst hn0
      have HZ : Hid (siId xs = 1) := Lib.hid (by have := List.eq_nil_of_length_eq_zero HN.out; subst this; rfl)
      have HXE : Hid (xs ++ [⟨1, cl, day, zs, [], -1⟩] = siL xs cl day zs) := Lib.hid (by rw [siL, siX, HZ.out])
      go_wp2_with fail
      refine (CC.out _ (HA.out.below HB0.out)).mono ?_
      rintro e w4 ⟨v, vs, rfl, o4, b4⟩
      obtain ⟨A4, c4, rfl⟩ := own_form o4.2.1
      have HO4 := Lib.hid (o4.mono HB0.out.size)
      have HB4 := Lib.hid (HB0.out.trans (b4.mono HB0.out.size))
      clear o4 b4
      go_wp2_with fail
      refine (cloneInt_any A3 _ c3 zs _ rfl (HA3.out.below HB4.out) h203).mono ?_
      rintro e w5 ⟨u, rfl, o5, b5⟩
      obtain ⟨A5, c5, rfl⟩ := own_form o5
      have HO5 := Lib.hid o5
      have B5 := Lib.hid b5
      have HB5 := Lib.hid (HB4.out.trans (b5.mono HB4.out.size))
      have hs4 := HB4.out.size
      have hs5 := HB5.out.size
      clear o5 b5
      have HRW := Lib.hid (fun q => own_below HO4.out.2.1 (B5.out.alloc B5.out.size q))
      go_wp2_with (at_builtin; go_must (refine wpList_app _ rfl (.tmp 29) (.tmp 36) 24 rfl w.heap.size 41 _ 6 88 Try.underlying24 info41 rfl (by omega) _ _ _ rfl (HRW.out _) _ 1 1 [.int .i64 1, .string cl, .int .i64 day, .slice A5 zs.length c5, .slice none 0 0, .int .i64 (-1)] rfl rfl (rd_new #[.int .i64 1, .string cl, .int .i64 day, .slice A5 zs.length c5, .slice none 0 0, .int .i64 (-1)] 41 (by simp)) (by intro u hu; simp at hu; rcases hu with rfl | rfl | rfl | rfl | rfl | rfl <;> rfl) (by unfold maxLen; omega) (by omega) (by simp; omega) ?_); intro v' w' o' g' d')
      have hfin := HO4.out.snoc (x := ⟨1, cl, day, zs, [], -1⟩) (B5.out.alloc B5.out.size _) hs4 (own_below HO5.out ((Below.refl _ _).alloc (Nat.le_refl _) _)) (World.ownsRow_nil _ _ _ _) (fun k h1 h2 => by cases h2) HCM.out o' g' d'
      have HB6 := Lib.hid ((HB5.out.alloc HB5.out.size _).trans (below_app (HRW.out _) g' (by simp; omega) (Nat.le_refl _)))
      rw [HXE.out] at hfin
      obtain ⟨A6, c6, rfl⟩ := own_form hfin.2.1
      have HCP := Lib.hid (own_cap hfin.2.1)
      have HF6 := Lib.hid hfin
      have hs6 := HB6.out.size
      clear hfin o' g' d'
      rw [HLN.out] at HCP HF6 ⊢
      cases h1 : goodA (siL xs cl day zs) with
      | false =>
        rw [h1] at C1
        have HF : Hid (siB xs cl day zs = false) := Lib.hid (by simp only [siB, HG.out, h1, Bool.true_and])
        clear h1
        go_wp2_with fail
        refine (C1.out A6 c6 _ HF6.out.rd2 HCP.out).mono ?_
        rintro e w8 ⟨rfl, b8⟩
        have HB8 := Lib.hid (HB6.out.trans (b8.mono HB6.out.size))
        have hs8 := HB8.out.size
        go_wp2
        go_ret3
        have e0 : V = [] := by rw [HV.out, siV, if_neg (by rw [HF.out]; simp)]
        have e1 : N = 0 := by rw [HNN.out, siN, if_neg (by rw [HF.out]; simp)]
        subst e0; subst e1
        rw [show Q = false by rw [HQ.out, HF.out]]
        exact ⟨_, [], rfl, ownA_nil _ _ _ _, HB8.out⟩
      | true =>
        rw [h1] at C1
        have HF : Hid (siB xs cl day zs = true) := Lib.hid (by simp only [siB, HG.out, h1, Bool.true_and])
        clear h1
        go_wp2_with fail
        refine (C1.out A6 c6 _ HF6.out.rd2 HCP.out).mono ?_
        rintro e w8 ⟨rfl, b8⟩
        have HB8 := Lib.hid (HB6.out.trans (b8.mono HB6.out.size))
        have HF8 := Lib.hid (HF6.out.below b8)
        clear b8
        go_wp2
        go_ret3
        have e0 : V = siL xs cl day zs := by rw [HV.out, siV, if_pos HF.out]
        have e1 : N = 1 := by rw [HNN.out, siN, if_pos HF.out, HZ.out]
        rw [show Q = true by rw [HQ.out, HF.out], e0, e1]
        exact ⟨_, _, rfl, HF8.out, HB8.out⟩
    · obtain ⟨m, rfl⟩ : ∃ m, n = m + 1 := ⟨n - 1, by omega⟩
      obtain ⟨y, hym⟩ : ∃ y, xs[m]? = some y := ⟨xs[m]'(by have := HN.out; omega), List.getElem?_eq_getElem _⟩
      obtain ⟨Z, hZ⟩ : ∃ Z, Z = wrap64 (y.id + 1) := ⟨_, rfl⟩
      have HZ : Hid (siId xs = Z) := Lib.hid (by rw [siId, show xs.length - 1 = m by have := HN.out; omega, hym, hZ])
      have hz1 : IntKind.i64.wrap (y.id + 1) = Z := by rw [hZ]; exact IntWalk.i64_left (y.id + 1)
      have hz2 : wrap64 (y.id + 1) = Z := hZ.symm
      clear hZ
      have HXE : Hid (xs ++ [⟨Z, cl, day, zs, [], -1⟩] = siL xs cl day zs) := Lib.hid (by rw [siL, siX, HZ.out])
      obtain ⟨g, o, B, cb, D, cd, hAe, hrow⟩ := (HA.out.below HB0.out).at hym
      subst hAe
      obtain ⟨hg, -, q0, -, -, -, -, -, -, -, -, -, -, -⟩ := hrow
      clear hym
      go_wp2_with fail
      refine (CC.out _ (HA.out.below HB0.out)).mono ?_
      rintro e w4 ⟨v, vs, rfl, o4, b4⟩
      obtain ⟨A4, c4, rfl⟩ := own_form o4.2.1
      have HO4 := Lib.hid (o4.mono HB0.out.size)
      have HB4 := Lib.hid (HB0.out.trans (b4.mono HB0.out.size))
      clear o4 b4
      go_wp2_with fail
      refine (cloneInt_any A3 _ c3 zs _ rfl (HA3.out.below HB4.out) h203).mono ?_
      rintro e w5 ⟨u, rfl, o5, b5⟩
      obtain ⟨A5, c5, rfl⟩ := own_form o5
      have HO5 := Lib.hid o5
      have B5 := Lib.hid b5
      have HB5 := Lib.hid (HB4.out.trans (b5.mono HB4.out.size))
      have hs4 := HB4.out.size
      have hs5 := HB5.out.size
      clear o5 b5
      have HRW := Lib.hid (fun q => own_below HO4.out.2.1 (B5.out.alloc B5.out.size q))
      go_wp2_with (at_builtin; go_must (refine wpList_app _ rfl (.tmp 29) (.tmp 36) 24 rfl w.heap.size 41 _ 6 88 Try.underlying24 info41 rfl (by omega) _ _ _ rfl (HRW.out _) _ 1 1 [.int .i64 Z, .string cl, .int .i64 day, .slice A5 zs.length c5, .slice none 0 0, .int .i64 (-1)] rfl rfl (rd_new #[.int .i64 Z, .string cl, .int .i64 day, .slice A5 zs.length c5, .slice none 0 0, .int .i64 (-1)] 41 (by simp)) (by intro u hu; simp at hu; rcases hu with rfl | rfl | rfl | rfl | rfl | rfl <;> rfl) (by unfold maxLen; omega) (by omega) (by simp; omega) ?_); intro v' w' o' g' d')
      have hfin := HO4.out.snoc (x := ⟨Z, cl, day, zs, [], -1⟩) (B5.out.alloc B5.out.size _) hs4 (own_below HO5.out ((Below.refl _ _).alloc (Nat.le_refl _) _)) (World.ownsRow_nil _ _ _ _) (fun k h1 h2 => by cases h2) HCM.out o' g' d'
      have HB6 := Lib.hid ((HB5.out.alloc HB5.out.size _).trans (below_app (HRW.out _) g' (by simp; omega) (Nat.le_refl _)))
      rw [HXE.out] at hfin
      obtain ⟨A6, c6, rfl⟩ := own_form hfin.2.1
      have HCP := Lib.hid (own_cap hfin.2.1)
      have HF6 := Lib.hid hfin
      have hs6 := HB6.out.size
      clear hfin o' g' d'
      rw [HLN.out] at HCP HF6 ⊢
      cases h1 : goodA (siL xs cl day zs) with
      | false =>
        rw [h1] at C1
        have HF : Hid (siB xs cl day zs = false) := Lib.hid (by simp only [siB, HG.out, h1, Bool.true_and])
        clear h1
        go_wp2_with fail
        refine (C1.out A6 c6 _ HF6.out.rd2 HCP.out).mono ?_
        rintro e w8 ⟨rfl, b8⟩
        have HB8 := Lib.hid (HB6.out.trans (b8.mono HB6.out.size))
        have hs8 := HB8.out.size
        go_wp2
        go_ret3
        have e0 : V = [] := by rw [HV.out, siV, if_neg (by rw [HF.out]; simp)]
        have e1 : N = 0 := by rw [HNN.out, siN, if_neg (by rw [HF.out]; simp)]
        subst e0; subst e1
        rw [show Q = false by rw [HQ.out, HF.out]]
        exact ⟨_, [], rfl, ownA_nil _ _ _ _, HB8.out⟩
      | true =>
        rw [h1] at C1
        have HF : Hid (siB xs cl day zs = true) := Lib.hid (by simp only [siB, HG.out, h1, Bool.true_and])
        clear h1
        go_wp2_with fail
        refine (C1.out A6 c6 _ HF6.out.rd2 HCP.out).mono ?_
        rintro e w8 ⟨rfl, b8⟩
        have HB8 := Lib.hid (HB6.out.trans (b8.mono HB6.out.size))
        have HF8 := Lib.hid (HF6.out.below b8)
        clear b8
        go_wp2
        go_ret3
        have e0 : V = siL xs cl day zs := by rw [HV.out, siV, if_pos HF.out]
        have e1 : N = Z := by rw [HNN.out, siN, if_pos HF.out, HZ.out]
        rw [show Q = true by rw [HQ.out, HF.out], e0, e1]
        exact ⟨_, _, rfl, HF8.out, HB8.out⟩

end Go.Proofs.Ytogjcnfhfpgbfaa
