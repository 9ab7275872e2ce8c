/- The program's SharesOf. -/
import Derived.Test.YtpmklcpplpnlhaaTreM
namespace Go.Proofs.Ytpmklcpplpnlhaa
set_option linter.unusedVariables false
set_option linter.unusedSimpArgs false
open Go.RowKit

theorem own_capS {w : World} {base e size n c : Nat} {A : Option Addr} {cs : List Value} (h : w.ownsRow base e size (.slice A n c) n cs) : n ≤ c ∧ c ≤ maxLen := by
  rcases h.2 with ⟨h', h0⟩ | ⟨g, cap, cur, h', _, _, hnc, hcm, _⟩
  · injection h' with _ _ h3
    subst h3; subst h0
    exact ⟨Nat.le_refl _, Nat.zero_le _⟩
  · injection h' with _ _ h3
    subst h3
    exact ⟨hnc, hcm⟩

/-- What the program's loop has seen of a list: the first k stand where they may, and each of the first j has a treaty with the next. -/
def SeenC (xs : List R5) (day : Int) (zs : List Int) (k j : Nat) : Prop := (∀ i z, i < k → zs[i]? = some z → (0 ≤ z ∧ z ≤ 8) ∧ z ∉ zs.take i) ∧ (∀ i y z, i < j → zs[i]? = some y → zs[i + 1]? = some z → 0 ≤ atV xs y z day)
theorem SeenC.zero {xs : List R5} {day : Int} {zs : List Int} : SeenC xs day zs 0 0 := ⟨fun i z hi => by omega, fun i y z hi => by omega⟩
theorem SeenC.post {xs : List R5} {day : Int} {zs : List Int} {k j : Nat} {z : Int} (h : SeenC xs day zs k j) (hz : zs[k]? = some z) (h1 : inR z 0 8 = true) (h2 : hasB (zs.take k) z = false) : SeenC xs day zs (k + 1) j := by
  refine ⟨fun i u hi hu => ?_, h.2⟩
  rcases Nat.lt_or_ge i k with hik | hik
  · exact h.1 i u hik hu
  · obtain rfl : i = k := by omega
    rw [hz] at hu; injection hu with hu; subst hu
    exact ⟨inR_true.1 h1, hasB_false.1 h2⟩
theorem SeenC.link {xs : List R5} {day : Int} {zs : List Int} {k j : Nat} {y z : Int} (h : SeenC xs day zs k j) (hy : zs[j]? = some y) (hz : zs[j + 1]? = some z) (h1 : 0 ≤ atV xs y z day) : SeenC xs day zs k (j + 1) := by
  refine ⟨h.1, fun i u v hi hu hv => ?_⟩
  rcases Nat.lt_or_ge i j with hik | hik
  · exact h.2 i u v hik hu hv
  · obtain rfl : i = j := by omega
    rw [hy] at hu; injection hu with hu; subst hu
    rw [hz] at hv; injection hv with hv; subst hv; exact h1
theorem SeenC.len {xs : List R5} {day : Int} {zs : List Int} {k j : Nat} (h : SeenC xs day zs k j) (hk : k ≤ zs.length) : k ≤ 9 := posts_len9 (fun i z hi hz => (h.1 i z hi hz).1) (fun i z hi hz => (h.1 i z hi hz).2) hk
theorem SeenC.all {xs : List R5} {day : Int} {zs : List Int} {k j : Nat} (h : SeenC xs day zs k j) (hk : zs.length ≤ k) (hj : zs.length ≤ j + 1) (h2 : 2 ≤ zs.length) : chainB xs day zs = true := by
  have h9 : zs.length ≤ 9 := (show SeenC xs day zs zs.length j from ⟨fun i z hi => h.1 i z (by omega), h.2⟩).len (Nat.le_refl _)
  simp only [chainB, Bool.and_eq_true, decide_eq_true_eq, List.all_eq_true, List.mem_range]
  refine ⟨⟨h2, h9⟩, fun i hi => ?_⟩
  obtain ⟨z, hz⟩ : ∃ z, zs[i]? = some z := ⟨zs[i], List.getElem?_eq_getElem hi⟩
  obtain ⟨g1, g2⟩ := h.1 i z (by omega) hz
  have e1 : inR z 0 8 = true := inR_true.2 g1
  have e2 : hasB (zs.take i) z = false := hasB_false.2 g2
  cases i with
  | zero => simp only [okC, hz]; rw [e1, e2]; simp
  | succ i =>
    obtain ⟨y, hy⟩ : ∃ y, zs[i]? = some y := ⟨zs[i], List.getElem?_eq_getElem (by omega)⟩
    have := h.2 i y z (by omega) hy hz
    simp [okC, hz, hy, e1, e2, this]
theorem chain_noPost {xs : List R5} {day : Int} {zs : List Int} {k : Nat} {z : Int} (hz : zs[k]? = some z) (h : inR z 0 8 = false) : chainB xs day zs = false := chainB_no (i := k) (List.getElem?_eq_some_iff.1 hz).1 (by simp [okC, hz, h])
theorem chain_twice {xs : List R5} {day : Int} {zs : List Int} {k : Nat} {z : Int} (hz : zs[k]? = some z) (h : hasB (zs.take k) z = true) : chainB xs day zs = false := chainB_no (i := k) (List.getElem?_eq_some_iff.1 hz).1 (by simp [okC, hz, h])
theorem chain_noLink {xs : List R5} {day : Int} {zs : List Int} {k : Nat} {y z : Int} (hy : zs[k]? = some y) (hz : zs[k + 1]? = some z) (h : atV xs y z day < 0) : chainB xs day zs = false :=
  chainB_no (i := k + 1) (List.getElem?_eq_some_iff.1 hz).1 (by simp [okC, hz, hy, show ¬ 0 ≤ atV xs y z day by omega])
/-- The list and what is left: before the last post by the shares, behind it the whole list. -/
def ShAt (xs : List R5) (day : Int) (zs : List Int) (p : Int) (m k : Nat) (out : List Int) (left : Int) : Prop := (k < m ∧ ShRel xs day zs p k out left) ∨ (k = m ∧ shL xs day zs p = out ∧ out.length = m ∧ left = 0)
theorem ShAt.bd {xs : List R5} {day : Int} {zs : List Int} {p : Int} {m k : Nat} {out : List Int} {left : Int} (h : ShAt xs day zs p m k out left) : out.length = k ∧ 0 ≤ left ∧ left ≤ 99999 := by
  rcases h with ⟨_, h⟩ | ⟨h1, _, h2, h3⟩
  · exact h.2
  · omega

def shW (xs : List R5) (day : Int) (zs : List Int) (p : Int) : List Int := if chainB xs day zs then shL xs day zs p else []
theorem shW_no {xs : List R5} {day : Int} {zs : List Int} {p : Int} (h : chainB xs day zs = false) : shW xs day zs p = [] := by simp [shW, h]
theorem shW_yes {xs : List R5} {day : Int} {zs : List Int} {p : Int} (h : chainB xs day zs = true) : shW xs day zs p = shL xs day zs p := by simp [shW, h]

set_option maxRecDepth 20000 in
set_option maxHeartbeats 8000000 in
theorem sharesOf_any (A : Option Addr) (n c : Nat) (xs : List R5) (B : Option Addr) (m cm : Nat) (zs : List Int) (day p : Int) (w : World) (hn : xs.length = n) (hA : Rd w A (cells5 xs)) (hv : trL xs = true) (hm : zs.length = m) (hB : Rd w B (cells1 zs)) (hm20 : m ≤ 1048576) (hcm : m ≤ cm) (hcm2 : cm ≤ maxLen) (hp : 0 ≤ p ∧ p ≤ 99999) :
    Calls Try.prog 49 #[.slice A n c, .slice B m cm, .int .i64 day, .int .i64 p] w (RetOwnB 3 1 (shW xs day zs p).length (cells1 (shW xs day zs p)) (chainB xs day zs) w) := by
  unfold maxLen at hcm2
  have HV := Lib.hid hv
  have h20 : n ≤ 20 := by have := trL_len hv; omega
  have HZ := Lib.hid (ShRel.zero (xs := xs) (day := day) (zs := zs) hp)
  clear hv
  by_cases h2 : m < 2
  · have HE := Lib.hid (show chainB xs day zs = false by simp only [chainB, Bool.and_eq_false_iff, decide_eq_false_iff_not]; left; omega)
    rw [shW_no HE.out, HE.out]
    go_enter Try.func49, Try.ntmps49
    go_wp2
    go_ret2
    exact ⟨_, rfl, World.ownsRow_nil _ _ _ _, Below.refl _ _⟩
  · have h2i : ¬ (m : Int) < 2 := by omega
    have h2n : 2 ≤ m := by omega
    have h2d : decide ((m : Int) < 2) = false := by simp; omega
    go_enter Try.func49, Try.ntmps49
    go_wp2_with fail
    go_loopw [22, 10, 11, 12, 13, 14, 15] (fun i o l _ _ _ _ wr => ∃ (V : Value) (k : Nat) (out : List Int) (left : Int), V = o ∧ k ≤ m ∧ i = .int .i64 k ∧ l = .int .i64 left ∧ SeenC xs day zs k (k - (k + 1 - m)) ∧ ShAt xs day zs p m k out left ∧ ShOut w 3 out V wr) (fun i _ _ _ _ _ _ _ => m - (intOf i).toNat)
    case atStart => exact ⟨_, 0, [], p, rfl, by omega, rfl, rfl, by rw [show 0 - (0 + 1 - m) = 0 by omega]; exact .zero, .inl ⟨by omega, HZ.out⟩, World.ownsRow_nil _ _ _ _, Below.refl _ _⟩
    case round =>
      obtain ⟨V, k, out, left, rfl, hk, rfl, rfl, hseen, hat, hso⟩ := hrel
      have HS := Lib.hid hseen
      have HAT := Lib.hid hat
      have HSO := Lib.hid hso
      have hb := hso.2
      obtain ⟨hol, hl0, hl9⟩ := hat.bd
      have HOL := Lib.hid hol
      clear hol hseen hat hso
      by_cases hlt : k < m
      · have hk9 : k ≤ 9 := HS.out.len (by omega)
        have holen : out.length ≤ 9 := by have := HOL.out; omega
        obtain ⟨z, hz⟩ : ∃ z, zs[k]? = some z := ⟨zs[k], List.getElem?_eq_getElem (by omega)⟩
        obtain ⟨g, o, hBe, hg, c0⟩ := (hB.below hb).at1 hz
        have HZk := Lib.hid hz
        have C2 := Lib.hid (fun w => isPost_any z w)
        have C3 := Lib.hid (fun w h => containsInt_any B k cm (zs.take k) z w (by rw [List.length_take]; omega) h (by omega))
        have HRD := Lib.hid (rd_take (hB.below hb) k)
        have HRel : ShRel xs day zs p k out left := by
          rcases HAT.out with ⟨_, h⟩ | ⟨h, _⟩
          · exact h
          · omega
        have HR := Lib.hid HRel
        have hki : (0 : Int) ≤ (k : Int) := by omega
        have hkc : (k : Int) ≤ (cm : Int) := by omega
        clear HRel
        cases hpz : inR z 0 8 with
        | false =>
          rw [hpz] at C2
          have HE := Lib.hid (chain_noPost (xs := xs) (day := day) hz hpz)
          rw [shW_no HE.out, HE.out]
          subst hBe
          clear hz hpz
          go_wp2_with fail
          refine (C2.out _).mono ?_
          rintro e w' ⟨rfl, rfl⟩
          go_wp2
          go_ret2
          exact ⟨_, rfl, World.ownsRow_nil _ _ _ _, hb⟩
        | true =>
          rw [hpz] at C2
          cases hh : hasB (zs.take k) z with
          | true =>
            rw [hh] at C3
            have HE := Lib.hid (chain_twice (xs := xs) (day := day) hz hh)
            rw [shW_no HE.out, HE.out]
            subst hBe
            clear hz hpz hh
            go_wp2_with fail
            refine (C2.out _).mono ?_
            rintro e w' ⟨rfl, rfl⟩
            go_wp2_with fail
            refine (C3.out _ HRD.out).mono ?_
            rintro e w' ⟨rfl, rfl⟩
            go_wp2
            go_ret2
            exact ⟨_, rfl, World.ownsRow_nil _ _ _ _, hb⟩
          | false =>
            rw [hh] at C3
            have HS1 := Lib.hid (HS.out.post hz hpz hh)
            by_cases hlast : k + 1 < m
            · have hlasti : (k : Int) + 1 < (m : Int) := by omega
              obtain ⟨y, hy⟩ : ∃ y, zs[k + 1]? = some y := ⟨zs[k + 1], List.getElem?_eq_getElem (by omega)⟩
              obtain ⟨g', o', hBe', hg', c1⟩ := (hB.below hb).at1 hy
              rw [hBe] at hBe'
              injection hBe' with hBe'
              injection hBe' with hB1 hB2
              subst hB1; subst hB2
              have C4 := Lib.hid (fun w h => inForce_any A n c xs z y day w hn h HV.out)
              by_cases hneg : atV xs z y day < 0
              · have HE := Lib.hid (chain_noLink (xs := xs) (day := day) hz hy hneg)
                rw [shW_no HE.out, HE.out]
                obtain ⟨t, ht⟩ : ∃ t, t = atV xs z y day := ⟨_, rfl⟩
                rw [← ht] at C4 hneg
                subst hBe
                clear hz hpz hh hy ht
                go_wp2_with fail
                refine (C2.out _).mono ?_
                rintro e w' ⟨rfl, rfl⟩
                go_wp2_with fail
                refine (C3.out _ HRD.out).mono ?_
                rintro e w' ⟨rfl, rfl⟩
                go_wp2_with fail
                refine (C4.out _ (hA.below hb)).mono ?_
                rintro e w1 ⟨rfl, b1⟩
                go_wp2
                go_ret2
                exact ⟨_, rfl, World.ownsRow_nil _ _ _ _, hb.trans (b1.mono hb.size)⟩
              · obtain ⟨q, x, hq, hx⟩ := at_hit (show 0 ≤ atV xs z y day by omega)
                have HS2 := Lib.hid ((show SeenC xs day zs (k + 1) k from by have := HS1.out; rwa [show k - (k + 1 - m) = k by omega] at this).link hz hy (by omega))
                obtain ⟨-, -, -, -, -, -, e1, e2⟩ := trB_bd (trL_at HV.out hx)
                obtain ⟨⟨k1, k2⟩, k3, k4⟩ := keep_bd ⟨hl0, hl9⟩ ⟨e1, e2⟩
                have hqn : q < n := by have := (List.getElem?_eq_some_iff.1 hx).1; omega
                have HST := Lib.hid (HR.out.step hz hy (shareV_at hq hx) ⟨e1, e2⟩)
                have HX := Lib.hid hx
                rw [hq] at C4
                subst hBe
                clear hz hpz hh hy hq hneg hx
                go_wp2_with fail
                refine (C2.out _).mono ?_
                rintro e w' ⟨rfl, rfl⟩
                go_wp2_with fail
                refine (C3.out _ HRD.out).mono ?_
                rintro e w' ⟨rfl, rfl⟩
                go_wp2_with fail
                refine (C4.out _ (hA.below hb)).mono ?_
                rintro e w1 ⟨rfl, b1⟩
                obtain ⟨ga, oa, hAe, hga, a0, a1, a2, a3, a4⟩ := ((hA.below hb).below b1).at5 HX.out
                have HA' := Lib.hid hA
                subst hAe
                have HO3 := Lib.hid (own_below HSO.out.1 b1)
                have HO4 := Lib.hid (fun o => HO3.out.alloc o)
                have hs3 := (hb.trans (b1.mono hb.size)).size
                clear a0 a1 a2 a3 c0 c1 hA
                go_wp2_with (at_builtin; go_must (refine wpList_app _ rfl (.tmp 62) (.tmp 64) 36 rfl w.heap.size 3 _ 1 8 Try.underlying36 infoI rfl (by omega) _ _ _ rfl (HO4.out _) _ 1 1 [.int .i64 (left * x.e / 100)] rfl rfl (rd_new #[.int .i64 (left * x.e / 100)] 3 (by simp)) (oneCell_ints [left * x.e / 100]) (by unfold maxLen; omega) (by omega) (by simp; omega) ?_); intro v' w' o' g' d')
                have HN := Lib.hid (HSO.out.app (b1.alloc b1.size _) (HO4.out _) o' g')
                go_roundw
                case rel => exact ⟨_, k + 1, out ++ [left * x.e / 100], left - left * x.e / 100, rfl, by omega, by go_num, by go_num, by rw [show k + 1 - (k + 1 + 1 - m) = k + 1 by omega]; exact HS2.out, .inl ⟨by omega, HST.out⟩, HN.out⟩
                case measure => simp [intOf]; omega
            · have hlasti : ¬ (k : Int) + 1 < (m : Int) := by omega
              have HL := Lib.hid (HR.out.last (by omega))
              have HO4 := Lib.hid (fun o => HSO.out.1.alloc o)
              have hs3 := hb.size
              subst hBe
              clear hz hpz hh
              go_wp2_with fail
              refine (C2.out _).mono ?_
              rintro e w' ⟨rfl, rfl⟩
              go_wp2_with fail
              refine (C3.out _ HRD.out).mono ?_
              rintro e w' ⟨rfl, rfl⟩
              go_wp2_with (at_builtin; go_must (refine wpList_app _ rfl (.tmp 62) (.tmp 64) 36 rfl w.heap.size 3 _ 1 8 Try.underlying36 infoI rfl (by omega) _ _ _ rfl (HO4.out _) _ 1 1 [.int .i64 left] rfl rfl (rd_new #[.int .i64 left] 3 (by simp)) (oneCell_ints [left]) (by unfold maxLen; omega) (by omega) (by simp; omega) ?_); intro v' w' o' g' d')
              have HN := Lib.hid (HSO.out.app ((Below.refl _ _).alloc (Nat.le_refl _) _) (HO4.out _) o' g')
              go_roundw
              case rel => exact ⟨_, k + 1, out ++ [left], 0, rfl, by omega, by go_num, by go_num, by rw [show k + 1 - (k + 1 + 1 - m) = k by omega]; have := HS1.out; rwa [show k - (k + 1 - m) = k by omega] at this, .inr ⟨by omega, HL.out, by rw [List.length_append, HOL.out]; simp; omega, rfl⟩, HN.out⟩
              case measure => simp [intOf]; omega
      · obtain rfl : k = m := by omega
        have HE := Lib.hid (HS.out.all (by omega) (by omega) (by omega))
        have HL : shL xs day zs p = out ∧ out.length = k := by
          rcases HAT.out with ⟨h, _⟩ | ⟨_, h, h', _⟩
          · omega
          · exact ⟨h, h'⟩
        have HLL := Lib.hid HL
        clear HL
        go_wp2
        go_ret2
        rw [shW_yes HE.out, HE.out, HLL.out.1]
        exact ⟨_, rfl, HSO.out.1, hb⟩

set_option maxHeartbeats 2000000 in
theorem implSharesOf_any (A : Option Addr) (n c : Nat) (xs : List R5) (B : Option Addr) (m cm : Nat) (zs : List Int) (day p : Int) (w : World) (hn : xs.length = n) (hA : Rd w A (cells5 xs)) (h20 : n ≤ 1048576) (hm : zs.length = m) (hB : Rd w B (cells1 zs)) (hm20 : m ≤ 1048576) (hcm : m ≤ cm) (hcm2 : cm ≤ maxLen) :
    Calls Try.prog 16 #[.slice A n c, .slice B m cm, .int .i64 day, .int .i64 p] w (RetOwnB 3 1 (shV xs zs day p).length (cells1 (shV xs zs day p)) (shB xs zs day p) w) := by
  cases hG : (trL xs && (inR day 0 4000 && inR p 0 99999)) with
  | false =>
    have hS : shB xs zs day p = false := by
      cases h1 : trL xs <;> cases h2 : inR day 0 4000 <;> cases h3 : inR p 0 99999 <;> simp [shB, h1, h2, h3] <;> simp [h1, h2, h3] at hG
    rw [show shV xs zs day p = [] by simp [shV, hS], hS]
    have HG := Lib.hid hG
    clear hG hS
    go_enter Try.func16, Try.ntmps16
    go_wp2_with fail
    refine (areTreaties_any A n c xs _ hn hA h20).mono ?_
    rintro e w1 ⟨rfl, b1⟩
    go_wp2_with (first
      | (go_at_call 35; refine (isDay_any _ _).mono ?_; rintro e w' ⟨rfl, rfl⟩)
      | (go_at_call 48; refine (inRange_any _ _ _ _).mono ?_; rintro e w' ⟨rfl, rfl⟩)
      | fail)
    any_goals (go_ret2; exact ⟨_, rfl, World.ownsRow_nil _ _ _ _, b1⟩)
    all_goals (exfalso; have := HG.out; go_light; grind)
  | true =>
    simp only [Bool.and_eq_true] at hG
    obtain ⟨hv, hd, hp⟩ := hG
    have C0 := Lib.hid (fun w h => areTreaties_any A n c xs w hn h h20)
    have C1 := Lib.hid (fun w => isDay_any day w)
    have C2 := Lib.hid (fun w => inRange_any p 0 99999 w)
    have C3 := Lib.hid (fun w h1 h2 => sharesOf_any A n c xs B m cm zs day p w hn h1 hv hm h2 hm20 hcm hcm2 (inR_true.1 hp))
    rw [hv] at C0
    rw [hd] at C1
    rw [hp] at C2
    have e1 : shB xs zs day p = chainB xs day zs := by simp [shB, hv, hd, hp]
    rw [show shV xs zs day p = shW xs day zs p by rw [shV, e1, shW], e1]
    clear hv hd hp e1
    go_enter Try.func16, Try.ntmps16
    go_wp2_with fail
    refine (C0.out _ hA).mono ?_
    rintro e w1 ⟨rfl, b1⟩
    go_wp2_with fail
    refine (C1.out _).mono ?_
    rintro e w' ⟨rfl, rfl⟩
    go_wp2_with fail
    refine (C2.out _).mono ?_
    rintro e w' ⟨rfl, rfl⟩
    go_wp2_with fail
    refine (C3.out _ (hA.below b1) (hB.below b1)).mono ?_
    rintro e w3 ⟨v3, rfl, o3, b3⟩
    go_wp2
    go_ret2
    exact ⟨_, rfl, own_mono o3 b1.size, b1.trans (b3.mono b1.size)⟩
end Go.Proofs.Ytpmklcpplpnlhaa
