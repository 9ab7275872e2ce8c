/- Best routes: the reference. -/
import Derived.Test.YtobloedpmjkgpaaCvS
namespace Go.Proofs.Ytobloedpmjkgpaa
set_option linter.unusedVariables false
set_option linter.unusedSimpArgs false
open Go.RowKit

theorem l9Asked_any (A : Option Addr) (n c : Nat) (xs : List R4) (f m : Int) (w : World) (hn : xs.length = n) (hA : Rd w A (cells4 xs)) (hg : mlL xs = true) (hf : 0 ≤ f ∧ f ≤ 9) (hm : 0 ≤ m ∧ m ≤ 9999) (h20 : n ≤ 1048576) :
    Calls Try.prog 75 #[.slice A n c, .int .i64 f, .int .i64 m] w (Ret (.bool true) w) := by
  have C0 := Lib.hid (fun w h => l9Good_any A n c xs w hn h h20 (fun x hx => sm4_of (ml_all hg x hx)))
  have C1 := Lib.hid (fun w => l9Office_any f w)
  have C2 := Lib.hid (fun w => l9Minute_any m w)
  rw [hg] at C0
  rw [inR_true.2 hf] at C1
  rw [inR_true.2 hm] at C2
  have HA := Lib.hid hA
  clear hA hg hn
  go_enter Try.func75, Try.ntmps75
  go_wp2_with fail
  refine (C0.out _ HA.out).mono ?_
  rintro e w1 ⟨rfl, b⟩
  have HB := Lib.hid b
  clear b
  go_wp2_with fail
  refine (C1.out _).mono ?_
  rintro e w2 ⟨rfl, rfl⟩
  go_wp2_with fail
  refine (C2.out _).mono ?_
  rintro e w3 ⟨rfl, rfl⟩
  go_wp2
  go_ret
  exact ⟨rfl, HB.out⟩
set_option maxHeartbeats 2000000 in
theorem EarliestAt_any (A : Option Addr) (n c : Nat) (xs : List R4) (f m t : Int) (w : World) (hn : xs.length = n) (hA : Rd w A (cells4 xs)) (hg : mlL xs = true) (hf : 0 ≤ f ∧ f ≤ 9) (hm : 0 ≤ m ∧ m ≤ 9999) (ht : 0 ≤ t ∧ t ≤ 9) (h20 : n ≤ 1048576) :
    Calls Try.prog 59 #[.slice A n c, .int .i64 f, .int .i64 m, .int .i64 t] w (Ret (.tuple #[.int .i64 (if atT (tmV xs f m) t = 10000 then 0 else atT (tmV xs f m) t), .bool (decide (atT (tmV xs f m) t ≠ 10000))]) w) := by
  obtain ⟨nt, hnt⟩ : ∃ nt : Nat, t = (nt : Int) := ⟨t.toNat, by omega⟩
  subst hnt
  have hnt0 : (0 : Int) ≤ (nt : Int) := by omega
  have hnt1 : (nt : Int) < 10 := by omega
  have C0 := Lib.hid (fun w h => l9Asked_any A n c xs f m w hn h hg hf hm h20)
  have C1 := Lib.hid (fun w => l9Office_any (nt : Int) w)
  rw [inR_true.2 ht] at C1
  have C2 := Lib.hid (fun w h => l9Times_any A n c xs f m w hn h (ml_all hg) hf hm h20)
  have hz1 := tm_at (tmP_len xs f m xs.length) ht
  rw [show tmP xs f m xs.length = tmV xs f m from rfl, Int.toNat_natCast] at hz1
  obtain ⟨e, he⟩ : ∃ e, e = atT (tmV xs f m) (nt : Int) := ⟨_, rfl⟩
  rw [← he] at hz1
  rw [← he]
  have HZ := Lib.hid hz1
  have HA := Lib.hid hA
  clear hA hg hn he hz1
  by_cases h : e = 10000
  · rw [if_pos h, show decide (e ≠ 10000) = false by simp [h]]
    have h1 : (e == 10000) = true := by simp [h]
    clear h
    go_enter Try.func59, Try.ntmps59
    go_wp2_with fail
    refine (C0.out _ HA.out).mono ?_
    rintro e0 w1 ⟨rfl, b⟩
    have HB := Lib.hid b
    have HA1 := Lib.hid (HA.out.below b)
    clear b HA
    go_wp2_with fail
    refine (C1.out _).mono ?_
    rintro e1 w2 ⟨rfl, rfl⟩
    go_wp2_with fail
    refine (C2.out _ HA1.out).mono ?_
    rintro e2 w3 ⟨v3, rfl, o3, b3⟩
    obtain ⟨A3, c3, rfl⟩ := own_form o3
    obtain ⟨g3, p3, eA3, hg3, r3⟩ := (Rd.of_own o3).at1 HZ.out
    subst eA3
    have HB3 := Lib.hid (HB.out.trans (b3.mono HB.out.size))
    clear o3 b3
    go_wp2
    go_ret2
    exact ⟨rfl, HB3.out⟩
  · rw [if_neg h, show decide (e ≠ 10000) = true by simp [h]]
    have h1 : (e == 10000) = false := by simp [h]
    clear h
    go_enter Try.func59, Try.ntmps59
    go_wp2_with fail
    refine (C0.out _ HA.out).mono ?_
    rintro e0 w1 ⟨rfl, b⟩
    have HB := Lib.hid b
    have HA1 := Lib.hid (HA.out.below b)
    clear b HA
    go_wp2_with fail
    refine (C1.out _).mono ?_
    rintro e1 w2 ⟨rfl, rfl⟩
    go_wp2_with fail
    refine (C2.out _ HA1.out).mono ?_
    rintro e2 w3 ⟨v3, rfl, o3, b3⟩
    obtain ⟨A3, c3, rfl⟩ := own_form o3
    obtain ⟨g3, p3, eA3, hg3, r3⟩ := (Rd.of_own o3).at1 HZ.out
    subst eA3
    have HB3 := Lib.hid (HB.out.trans (b3.mono HB.out.size))
    clear o3 b3
    go_wp2
    go_ret2
    exact ⟨rfl, HB3.out⟩
set_option maxHeartbeats 8000000 in
set_option maxRecDepth 20000 in
theorem BestRoute_any (A : Option Addr) (n c : Nat) (xs : List R4) (f m t : Int) (L : List Int) (w : World) (hn : xs.length = n) (hA : Rd w A (cells4 xs)) (hg : mlL xs = true) (hf : 0 ≤ f ∧ f ≤ 9) (hm : 0 ≤ m ∧ m ≤ 9999) (ht : 0 ≤ t ∧ t ≤ 9) (h20 : n ≤ 1048576)
    (hne : atT (tmV xs f m) t ≠ 10000) (hL : BR xs t (atT (tmV xs f m) t) f m L) :
    Calls Try.prog 60 #[.slice A n c, .int .i64 f, .int .i64 m, .int .i64 t] w (RetOwnB 3 1 L.length (cells1 L) true w) := by
  obtain ⟨nt, hnt⟩ : ∃ nt : Nat, t = (nt : Int) := ⟨t.toNat, by omega⟩
  subst hnt
  have hnt0 : (0 : Int) ≤ (nt : Int) := by omega
  have hnt1 : (nt : Int) < 10 := by omega
  have HA := Lib.hid hA
  have HG := Lib.hid hg
  have HN := Lib.hid hn
  have h20' : n ≤ 20 := by have := mlL_len hg; omega
  have hke := okT_at (tmP_ok hg f hm xs.length) (nt : Int)
  obtain ⟨e, he⟩ : ∃ e, e = atT (tmV xs f m) (nt : Int) := ⟨_, rfl⟩
  rw [show tmP xs f m xs.length = tmV xs f m from rfl, ← he] at hke
  rw [← he] at hL hne
  have hL9 := hL.len hg hm.2
  have HL := Lib.hid hL
  have HE := Lib.hid he.symm
  have hLn : (L.length : Int) ≤ 9999 := by omega
  have he9 : 0 ≤ e ∧ e ≤ 9999 := by omega
  clear hke

  have CE := Lib.hid (fun w h => EarliestAt_any A n c xs f m (nt : Int) w hn h hg hf hm ht h20)
  have CT := Lib.hid (fun f m w h hf hm => l9Times_any A n c xs f m w hn h (ml_all hg) hf hm h20)
  rw [← he] at CE
  rw [show (if e = 10000 then (0 : Int) else e) = e from if_neg hne, show decide (e ≠ 10000) = true by simp [hne]] at CE

  clear hA hg hn hL he hL9
  go_enter Try.func60, Try.ntmps60
  go_wp2_with fail
  refine (CE.out _ (HA.out.alloc _)).mono ?_
  rintro e0 w1 ⟨rfl, b1⟩
  have HW1 : Hid (Below w.heap.size w w1) := Lib.hid (((Below.refl _ _).alloc (Nat.le_refl _) _).trans (b1.mono (by simp)))
  have HO0 : Hid (w1.ownsRow w.heap.size 3 1 (.slice (some ⟨w.heap.size, 0, none⟩) 0 0) 0 (cells1 [])) := Lib.hid (own_below (own_empty w w.heap.size 3 1 (Nat.le_refl _)) b1)
  clear b1 CE
  go_wp2_with fail
  go_loopw [10, 1, 2, 13, 14] (fun r p q _ _ wr => ∃ (f2 m2 : Int) (D L2 : List Int), p = .int .i64 f2 ∧ q = .int .i64 m2 ∧ L = D ++ L2 ∧ BR xs (nt : Int) e f2 m2 L2 ∧ (0 ≤ f2 ∧ f2 ≤ 9) ∧ (0 ≤ m2 ∧ m2 ≤ 9999) ∧ atT (tmV xs f2 m2) (nt : Int) = e ∧ wr.ownsRow w.heap.size 3 1 r D.length (cells1 D) ∧ Below w.heap.size w wr) (fun _ _ q _ _ _ => (10000 - intOf q).toNat)
  case atStart => exact ⟨f, m, [], L, rfl, rfl, rfl, HL.out, hf, hm, HE.out, HO0.out, HW1.out⟩
  case round =>
    clear HL HE HO0 HW1
    obtain ⟨wO, hwO⟩ : ∃ x, x = wr := ⟨wr, rfl⟩
    subst hwO
    obtain ⟨f2, m2, D, L2, rfl, rfl, hLD, hbr, hf2, hm2, he2, ho, hb⟩ := hrel
    obtain ⟨vA, vc, rfl⟩ := own_form ho
    have HO := Lib.hid ho
    have HB := Lib.hid hb
    have hsw := hb.size
    have hDn : (D.length : Int) ≤ 9999 := by have h := congrArg List.length hLD; simp at h; omega
    have HLD := Lib.hid hLD
    have HE2 := Lib.hid he2
    clear ho hb hLD he2
    rcases hbr.inv with ⟨hft, hnil⟩ | ⟨ix, x, L3, hft, hcons, hix, hqx, hfirst, hbr3⟩
    · have HF : Hid (L = D) := Lib.hid (by rw [HLD.out, hnil, List.append_nil])
      have hme : m2 = e := by
        have h := tm_self HG.out hf2 hm2
        rw [← HE2.out, hft]; rw [hft] at h; rw [h]
      have hd1 : (f2 != (nt : Int)) = false := by simp [hft]
      have hd2 : (m2 != e) = false := by simp [hme]
      clear hme
      clear hbr hnil
      subst hft
      go_wp2
      go_ret2
      exact ⟨_, rfl, by rw [HF.out]; exact HO.out, HB.out⟩
    · have HBR3 := Lib.hid hbr3
      have HCONS := Lib.hid hcons
      have HIX := Lib.hid hix
      have HQX := Lib.hid hqx
      have HFI := Lib.hid hfirst
      have hixn := (List.getElem?_eq_some_iff.1 hix).1
      have hixn' : ix < n := by have := HN.out; omega
      have hne2 : (f2 != (nt : Int)) = true := by simp [hft]
      have hne3 : (f2 == (nt : Int)) = false := by simp [hft]
      clear hbr hbr3 hcons hix hqx hfirst hft
      go_wp2_with fail
      go_loopw [13, 14, 10, 1, 2] (fun i _ r p q wr => ∃ k : Nat, i = .int .i64 k ∧ k ≤ ix ∧ r = .slice vA D.length vc ∧ p = .int .i64 f2 ∧ q = .int .i64 m2 ∧ Below wO.heap.size wO wr) (fun i _ _ _ _ _ => n - (intOf i).toNat)
      case atStart => exact ⟨0, rfl, by omega, rfl, rfl, rfl, Below.refl _ _⟩
      case round =>
        obtain ⟨k, rfl, hk, rfl, rfl, rfl, hbk⟩ := hrel
        have HBK := Lib.hid hbk
        have hsk := hbk.size
        clear hbk
        have hlt : k < n := by omega
        have hlt' : (k : Int) < (n : Int) := by omega
        have hk0 : (0 : Int) ≤ (k : Int) := by omega
        have HBW := Lib.hid (HB.out.trans (HBK.out.mono hsw))
        obtain ⟨y, ey⟩ : ∃ y, xs[k]? = some y := ⟨_, List.getElem?_eq_getElem (by omega)⟩
        have hBY := mlL_at HG.out ey
        obtain ⟨hy1, hy2, -, hy4, hy5⟩ := mlB_bd hBY
        obtain ⟨g, o, eA, hgl, c0, c1, c2, c3⟩ := (HA.out.below HBW.out).at4 ey
        subst eA
        have HEY := Lib.hid ey
        have hky := okT_at (tmP_ok HG.out y.c hy5 xs.length) (nt : Int)
        have hzy := tm_at (tmP_len xs y.c y.d xs.length) ht
        rw [show tmP xs y.c y.d xs.length = tmV xs y.c y.d from rfl] at hky hzy
        rw [Int.toNat_natCast] at hzy
        obtain ⟨z, hz⟩ : ∃ z, z = atT (tmV xs y.c y.d) (nt : Int) := ⟨_, rfl⟩
        rw [← hz] at hky hzy
        have HZY := Lib.hid hzy
        have hq : brQ xs (nt : Int) e f2 m2 y = (decide (y.b = f2) && (decide (m2 ≤ y.a) && decide (z = e))) := by unfold brQ; rw [hz]
        have HQ := Lib.hid hq
        have HZ := Lib.hid hz
        clear hzy hq hz hBY ey
        by_cases hki : k = ix
        · have hxy : y = x := by have h := HEY.out; rw [hki, HIX.out] at h; injection h with h; exact h.symm
          have htr : (decide (y.b = f2) && (decide (m2 ≤ y.a) && decide (z = e))) = true := by rw [← HQ.out, hxy]; exact HQX.out
          simp only [Bool.and_eq_true, decide_eq_true_eq] at htr
          obtain ⟨t1, t2, t3⟩ := htr
          have d1 : (y.b == f2) = true := by simp [t1]
          have d2 : decide (m2 ≤ y.a) = true := by simp [t2]
          have d3 : (z == e) = true := by simp [t3]
          have HKI := Lib.hid hki
          have HXY := Lib.hid hxy
          have T3 := Lib.hid t3
          clear HFI HQ t1 hki hxy t3
          go_wp2_with fail
          refine (CT.out y.c y.d _ ((HA.out.below HBW.out).alloc _) hy2 hy5).mono ?_
          rintro e3 w3 ⟨v3, rfl, o3, b3⟩
          obtain ⟨A3, c3', rfl⟩ := own_form o3
          obtain ⟨g3, p3, eA3, hg3, r3⟩ := (Rd.of_own o3).at1 HZY.out
          subst eA3
          have hw3 : wr.heap.size < w3.heap.size := by have := b3.size; simp at this; omega
          have e2 := (b3.cell (p := ⟨wr.heap.size, 2, none⟩) (by simp)).trans (World.cell?_alloc_at _ _ _ _ rfl)
          have e3' := (b3.cell (p := ⟨wr.heap.size, 3, none⟩) (by simp)).trans (World.cell?_alloc_at _ _ _ _ rfl)
          have hal : Below wr.heap.size wr w3 := ((Below.refl _ _).alloc (Nat.le_refl _) _).trans (b3.mono (by simp))
          have HOK := Lib.hid (own_below HO.out HBK.out)
          have HO3 := Lib.hid (own_below HOK.out hal)
          have HO4 := Lib.hid (fun o1 => HO3.out.alloc o1)
          have HB3 := Lib.hid (HBW.out.trans (hal.mono (by omega)))
          have hs3 : w.heap.size ≤ w3.heap.size := HB3.out.size
          clear o3 b3 hal c0 c1 c2 c3
          go_wp2_with (at_builtin; go_must (refine wpList_app _ rfl (.tmp 68) (.tmp 70) 29 rfl w.heap.size 3 _ 1 8 Try.underlying29 infoI rfl (by omega) _ _ _ rfl (HO4.out _) _ 1 1 [.int .i64 (k : Int)] rfl rfl (rd_new #[.int .i64 (k : Int)] 3 (by simp)) (oneCell_ints [(k : Int)]) (by unfold maxLen; omega) (by omega) (by simp; omega) ?_); intro v' w' o' g' d'; have hne4 := own_ne HOK.out (b := wr.heap.size) (Nat.le_refl _); have y2 := (app_keep g' (b := wr.heap.size) (by simp; omega) hne4 2).trans ((World.cell?_alloc_lt _ _ _ hw3).trans e2); have y3 := (app_keep g' (b := wr.heap.size) (by simp; omega) hne4 3).trans ((World.cell?_alloc_lt _ _ _ hw3).trans e3'); have hw' : wr.heap.size < w'.heap.size := Nat.lt_of_lt_of_le (by simp; omega) g'.size; have HO5 := Lib.hid o'; have HG5 := Lib.hid g'; clear o' g' d' hne4 e2 e3')

          have HBN : Hid (Below w.heap.size w w') := Lib.hid ((HB3.out.alloc hs3 _).grown HG5.out (by simp; omega) (fun b hb => (HO3.out.lt b hb).1))
          have HON : Hid (w'.ownsRow w.heap.size 3 1 v' (D ++ [(k : Int)]).length (cells1 (D ++ [(k : Int)]))) := Lib.hid (by
            have h := HO5.out
            rw [show cells1 D ++ [Value.int .i64 (k : Int)] = cells1 (D ++ [(k : Int)]) by simp [cells1]] at h
            rw [List.length_append]; exact h)
          have HLN : Hid (L = (D ++ [(k : Int)]) ++ L3) := Lib.hid (by rw [HLD.out, HCONS.out, HKI.out]; simp)
          have HBRN : Hid (BR xs (nt : Int) e y.c y.d L3) := Lib.hid (by rw [HXY.out]; exact HBR3.out)

          go_roundw
          case rel => exact ⟨y.c, y.d, D ++ [(k : Int)], L3, rfl, rfl, HLN.out, HBRN.out, hy2, hy5, by rw [← HZ.out, T3.out], HON.out, HBN.out⟩
          case measure => simp [intOf]; omega
        · have hkl : k < ix := by omega
          have hno := HQ.out.symm.trans (HFI.out k y hkl HEY.out)
          by_cases t1 : y.b = f2
          · have d1 : (y.b == f2) = true := by simp [t1]
            by_cases t2 : m2 ≤ y.a
            · have d2 : decide (m2 ≤ y.a) = true := by simp [t2]
              have t3 : z ≠ e := by intro h; simp [t1, t2, h] at hno
              have d3 : (z == e) = false := by simp [t3]
              clear hno HFI HQ t1 HBR3
              go_wp2_with fail
              refine (CT.out y.c y.d _ ((HA.out.below HBW.out).alloc _) hy2 hy5).mono ?_
              rintro e3 w3 ⟨v3, rfl, o3, b3⟩
              obtain ⟨A3, c3', rfl⟩ := own_form o3
              obtain ⟨g3, p3, eA3, hg3, r3⟩ := (Rd.of_own o3).at1 HZY.out
              subst eA3
              have HB3 := Lib.hid ((HBK.out.alloc hsk _).trans (b3.mono (by simp; omega)))
              clear o3 b3
              go_wp2_with fail
              go_roundw
              case rel => exact ⟨k + 1, by go_num, by omega, rfl, rfl, rfl, HB3.out⟩
              case measure => simp [intOf]; omega
            · have d2 : decide (m2 ≤ y.a) = false := by simp; omega
              clear hno HFI HQ t1 HBR3
              go_wp2_with fail
              go_roundw
              case rel => exact ⟨k + 1, by go_num, by omega, rfl, rfl, rfl, HBK.out.alloc hsk _⟩
              case measure => simp [intOf]; omega
          · have d1 : (y.b == f2) = false := by simp [t1]
            clear hno HFI HQ HBR3
            go_wp2_with fail
            go_roundw
            case rel => exact ⟨k + 1, by go_num, by omega, rfl, rfl, rfl, HBK.out.alloc hsk _⟩
            case measure => simp [intOf]; omega

end Go.Proofs.Ytobloedpmjkgpaa
