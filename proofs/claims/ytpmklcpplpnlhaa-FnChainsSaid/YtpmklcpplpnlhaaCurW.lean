/- What the law on chains draws: a list, a chain, a day, a postage. -/
import Derived.Test.YtpmklcpplpnlhaaCurV
namespace Go.Proofs.Ytpmklcpplpnlhaa
set_option linter.unusedVariables false
set_option linter.unusedSimpArgs false
open Go.RowKit

theorem LstI.of {w : World} {base e : Nat} {v : Value} {zs : List Int} (h : w.ownsRow base e 1 v zs.length (cells1 zs)) (hl : zs.length ≤ 10) : LstI w v zs := by
  obtain ⟨A, c, rfl⟩ := own_form h
  exact ⟨⟨A, c, rfl, Rd.of_own h, (own_capS h).1, (own_capS h).2⟩, hl⟩
theorem LstI.grown {w w' : World} {p : Nat} {v : Value} {zs : List Int} (h : LstI w v zs) (hg : w.grownBy w' (some p)) (hp : ∀ A c g o q, v = .slice A zs.length c → A = some ⟨g, o, q⟩ → g ≠ p) : LstI w' v zs := by
  obtain ⟨⟨A, c, e, r, h1, h2⟩, hl⟩ := h
  exact ⟨⟨A, c, e, r.grown hg (fun g o q ea => by have := hp A c g o q e ea; simpa using this), h1, h2⟩, hl⟩

/-- The world in which six chains and the table of them lie. -/
def sixW (w : World) : World := (((((((w.alloc (.cells #[.int .i64 0, .int .i64 1] 3)).alloc (.cells #[.int .i64 0] 3)).alloc (.cells #[] 3)).alloc (.cells #[.int .i64 1, .int .i64 0] 3)).alloc (.cells #[.int .i64 0, .int .i64 1, .int .i64 0] 3)).alloc (.cells #[.int .i64 0, .int .i64 9] 3)).alloc (.cells #[.slice (some ⟨w.heap.size, 0, none⟩) 2 2, .slice (some ⟨w.heap.size + 1, 0, none⟩) 1 1, .slice (some ⟨w.heap.size + 1 + 1, 0, none⟩) 0 0, .slice (some ⟨w.heap.size + 1 + 1 + 1, 0, none⟩) 2 2, .slice (some ⟨w.heap.size + 1 + 1 + 1 + 1, 0, none⟩) 3 3, .slice (some ⟨w.heap.size + 1 + 1 + 1 + 1 + 1, 0, none⟩) 2 2] 36))
theorem six_below (w : World) : Below w.heap.size w (sixW w) := 
  ((((((((Below.refl _ _).alloc (by simp) _).alloc (by simp) _).alloc (by simp <;> omega) _).alloc (by simp <;> omega) _).alloc (by simp <;> omega) _).alloc (by simp <;> omega) _).alloc (by simp <;> omega) _)
theorem six_tab (w : World) : Blk (sixW w) (w.heap.size + 1 + 1 + 1 + 1 + 1 + 1) [.slice (some ⟨w.heap.size, 0, none⟩) 2 2, .slice (some ⟨w.heap.size + 1, 0, none⟩) 1 1, .slice (some ⟨w.heap.size + 1 + 1, 0, none⟩) 0 0, .slice (some ⟨w.heap.size + 1 + 1 + 1, 0, none⟩) 2 2, .slice (some ⟨w.heap.size + 1 + 1 + 1 + 1, 0, none⟩) 3 3, .slice (some ⟨w.heap.size + 1 + 1 + 1 + 1 + 1, 0, none⟩) 2 2] := by
  have h := Blk.new ((((((w.alloc (.cells #[.int .i64 0, .int .i64 1] 3)).alloc (.cells #[.int .i64 0] 3)).alloc (.cells #[] 3)).alloc (.cells #[.int .i64 1, .int .i64 0] 3)).alloc (.cells #[.int .i64 0, .int .i64 1, .int .i64 0] 3)).alloc (.cells #[.int .i64 0, .int .i64 9] 3)) [.slice (some ⟨w.heap.size, 0, none⟩) 2 2, .slice (some ⟨w.heap.size + 1, 0, none⟩) 1 1, .slice (some ⟨w.heap.size + 1 + 1, 0, none⟩) 0 0, .slice (some ⟨w.heap.size + 1 + 1 + 1, 0, none⟩) 2 2, .slice (some ⟨w.heap.size + 1 + 1 + 1 + 1, 0, none⟩) 3 3, .slice (some ⟨w.heap.size + 1 + 1 + 1 + 1 + 1, 0, none⟩) 2 2] 36
  simp only [World.size_alloc] at h
  exact h
theorem six_0 (w : World) : LstI (sixW w) (.slice (some ⟨w.heap.size, 0, none⟩) 2 2) [0, 1] := by
  have h := rd_ints (w := w) [0, 1] 3
  have h2 := ((((((h.alloc (.cells #[.int .i64 0] 3)).alloc (.cells #[] 3)).alloc (.cells #[.int .i64 1, .int .i64 0] 3)).alloc (.cells #[.int .i64 0, .int .i64 1, .int .i64 0] 3)).alloc (.cells #[.int .i64 0, .int .i64 9] 3)).alloc (.cells #[.slice (some ⟨w.heap.size, 0, none⟩) 2 2, .slice (some ⟨w.heap.size + 1, 0, none⟩) 1 1, .slice (some ⟨w.heap.size + 1 + 1, 0, none⟩) 0 0, .slice (some ⟨w.heap.size + 1 + 1 + 1, 0, none⟩) 2 2, .slice (some ⟨w.heap.size + 1 + 1 + 1 + 1, 0, none⟩) 3 3, .slice (some ⟨w.heap.size + 1 + 1 + 1 + 1 + 1, 0, none⟩) 2 2] 36))
  try simp only [World.size_alloc] at h2
  exact ⟨⟨_, _, rfl, h2, Nat.le_refl _, by simp [maxLen]⟩, by simp⟩
theorem six_1 (w : World) : LstI (sixW w) (.slice (some ⟨w.heap.size + 1, 0, none⟩) 1 1) [0] := by
  have h := rd_ints (w := (w.alloc (.cells #[.int .i64 0, .int .i64 1] 3))) [0] 3
  have h2 := (((((h.alloc (.cells #[] 3)).alloc (.cells #[.int .i64 1, .int .i64 0] 3)).alloc (.cells #[.int .i64 0, .int .i64 1, .int .i64 0] 3)).alloc (.cells #[.int .i64 0, .int .i64 9] 3)).alloc (.cells #[.slice (some ⟨w.heap.size, 0, none⟩) 2 2, .slice (some ⟨w.heap.size + 1, 0, none⟩) 1 1, .slice (some ⟨w.heap.size + 1 + 1, 0, none⟩) 0 0, .slice (some ⟨w.heap.size + 1 + 1 + 1, 0, none⟩) 2 2, .slice (some ⟨w.heap.size + 1 + 1 + 1 + 1, 0, none⟩) 3 3, .slice (some ⟨w.heap.size + 1 + 1 + 1 + 1 + 1, 0, none⟩) 2 2] 36))
  try simp only [World.size_alloc] at h2
  exact ⟨⟨_, _, rfl, h2, Nat.le_refl _, by simp [maxLen]⟩, by simp⟩
theorem six_2 (w : World) : LstI (sixW w) (.slice (some ⟨w.heap.size + 1 + 1, 0, none⟩) 0 0) [] := by
  have h := rd_ints (w := ((w.alloc (.cells #[.int .i64 0, .int .i64 1] 3)).alloc (.cells #[.int .i64 0] 3))) [] 3
  have h2 := ((((h.alloc (.cells #[.int .i64 1, .int .i64 0] 3)).alloc (.cells #[.int .i64 0, .int .i64 1, .int .i64 0] 3)).alloc (.cells #[.int .i64 0, .int .i64 9] 3)).alloc (.cells #[.slice (some ⟨w.heap.size, 0, none⟩) 2 2, .slice (some ⟨w.heap.size + 1, 0, none⟩) 1 1, .slice (some ⟨w.heap.size + 1 + 1, 0, none⟩) 0 0, .slice (some ⟨w.heap.size + 1 + 1 + 1, 0, none⟩) 2 2, .slice (some ⟨w.heap.size + 1 + 1 + 1 + 1, 0, none⟩) 3 3, .slice (some ⟨w.heap.size + 1 + 1 + 1 + 1 + 1, 0, none⟩) 2 2] 36))
  try simp only [World.size_alloc] at h2
  exact ⟨⟨_, _, rfl, h2, Nat.le_refl _, by simp [maxLen]⟩, by simp⟩
theorem six_3 (w : World) : LstI (sixW w) (.slice (some ⟨w.heap.size + 1 + 1 + 1, 0, none⟩) 2 2) [1, 0] := by
  have h := rd_ints (w := (((w.alloc (.cells #[.int .i64 0, .int .i64 1] 3)).alloc (.cells #[.int .i64 0] 3)).alloc (.cells #[] 3))) [1, 0] 3
  have h2 := (((h.alloc (.cells #[.int .i64 0, .int .i64 1, .int .i64 0] 3)).alloc (.cells #[.int .i64 0, .int .i64 9] 3)).alloc (.cells #[.slice (some ⟨w.heap.size, 0, none⟩) 2 2, .slice (some ⟨w.heap.size + 1, 0, none⟩) 1 1, .slice (some ⟨w.heap.size + 1 + 1, 0, none⟩) 0 0, .slice (some ⟨w.heap.size + 1 + 1 + 1, 0, none⟩) 2 2, .slice (some ⟨w.heap.size + 1 + 1 + 1 + 1, 0, none⟩) 3 3, .slice (some ⟨w.heap.size + 1 + 1 + 1 + 1 + 1, 0, none⟩) 2 2] 36))
  try simp only [World.size_alloc] at h2
  exact ⟨⟨_, _, rfl, h2, Nat.le_refl _, by simp [maxLen]⟩, by simp⟩
theorem six_4 (w : World) : LstI (sixW w) (.slice (some ⟨w.heap.size + 1 + 1 + 1 + 1, 0, none⟩) 3 3) [0, 1, 0] := by
  have h := rd_ints (w := ((((w.alloc (.cells #[.int .i64 0, .int .i64 1] 3)).alloc (.cells #[.int .i64 0] 3)).alloc (.cells #[] 3)).alloc (.cells #[.int .i64 1, .int .i64 0] 3))) [0, 1, 0] 3
  have h2 := ((h.alloc (.cells #[.int .i64 0, .int .i64 9] 3)).alloc (.cells #[.slice (some ⟨w.heap.size, 0, none⟩) 2 2, .slice (some ⟨w.heap.size + 1, 0, none⟩) 1 1, .slice (some ⟨w.heap.size + 1 + 1, 0, none⟩) 0 0, .slice (some ⟨w.heap.size + 1 + 1 + 1, 0, none⟩) 2 2, .slice (some ⟨w.heap.size + 1 + 1 + 1 + 1, 0, none⟩) 3 3, .slice (some ⟨w.heap.size + 1 + 1 + 1 + 1 + 1, 0, none⟩) 2 2] 36))
  try simp only [World.size_alloc] at h2
  exact ⟨⟨_, _, rfl, h2, Nat.le_refl _, by simp [maxLen]⟩, by simp⟩
theorem six_5 (w : World) : LstI (sixW w) (.slice (some ⟨w.heap.size + 1 + 1 + 1 + 1 + 1, 0, none⟩) 2 2) [0, 9] := by
  have h := rd_ints (w := (((((w.alloc (.cells #[.int .i64 0, .int .i64 1] 3)).alloc (.cells #[.int .i64 0] 3)).alloc (.cells #[] 3)).alloc (.cells #[.int .i64 1, .int .i64 0] 3)).alloc (.cells #[.int .i64 0, .int .i64 1, .int .i64 0] 3))) [0, 9] 3
  have h2 := (h.alloc (.cells #[.slice (some ⟨w.heap.size, 0, none⟩) 2 2, .slice (some ⟨w.heap.size + 1, 0, none⟩) 1 1, .slice (some ⟨w.heap.size + 1 + 1, 0, none⟩) 0 0, .slice (some ⟨w.heap.size + 1 + 1 + 1, 0, none⟩) 2 2, .slice (some ⟨w.heap.size + 1 + 1 + 1 + 1, 0, none⟩) 3 3, .slice (some ⟨w.heap.size + 1 + 1 + 1 + 1 + 1, 0, none⟩) 2 2] 36))
  try simp only [World.size_alloc] at h2
  exact ⟨⟨_, _, rfl, h2, Nat.le_refl _, by simp [maxLen]⟩, by simp⟩

set_option maxRecDepth 20000 in
set_option maxHeartbeats 8000000 in
theorem drawSharesOf_any (B : Option Addr) (n c : Nat) (zs : List Int) (w : World) (hn : zs.length = n) (hB : Bytes w B zs) :
    Calls Try.prog 15 #[.slice B n c] w (RetDS w) := by
  have SC := Lib.hid (fun A n c xs a b day w hn h h20 => specShortestChain_any A n c xs a b day w hn h h20)
  subst hn
  have HC0 := Lib.hid (CurB.new hB c 64)
  obtain ⟨u, hu⟩ : ∃ u : Cu, u = ⟨B, c, zs⟩ := ⟨_, rfl⟩
  rw [← hu] at HC0
  clear hu hB
  obtain ⟨p, hp⟩ : ∃ p, p = w.heap.size := ⟨_, rfl⟩
  have HP := Lib.hid hp
  have TR := Lib.hid (fun k w h hk => treaties_any p k u w h hk)
  have PO := Lib.hid (fun k w h hk => post_any p k u w h hk)
  have TD := Lib.hid (fun k w h hk => treatyDay_any p k u w h hk)
  have HC1 : Hid (CurB (w.alloc (.cells #[.slice B zs.length c, .int .i64 0, .int .u64 0] 64)) p u 0) := Lib.hid (by rw [hp]; exact HC0.out)
  clear HC0
  have HBW : Hid (w.grownBy (w.alloc (.cells #[.slice B zs.length c, .int .i64 0, .int .u64 0] 64)) (some p)) := Lib.hid (World.grownBy_alloc w _ _)
  clear hp
  go_enter Try.func15, Try.ntmps15
  go_wp2_with fail
  rw [← HP.out]
  refine (TR.out 0 _ HC1.out (by omega)).mono ?_
  rintro e w1 ⟨v1, xs, k1, rfl, o1, hx, hk1, hc, hg⟩
  have hp1 : p < (w.alloc (.cells #[.slice B zs.length c, .int .i64 0, .int .u64 0] 64)).heap.size := by rw [HP.out]; simp
  have HO1 := Lib.hid o1
  have HG1 := Lib.hid (grown_trans HBW.out hg)
  have HC := Lib.hid hc
  clear o1 hc hg HC1 HBW
  have PK := Lib.hid (fun k m w h hk hm hm2 => pick_any p k m u w h hk hm hm2)
  have ON := Lib.hid (fun k m w h hk hm hm2 => one_any p k m u w h hk hm hm2)
  have AM := Lib.hid (fun k n c A zs w h hk hz hn hn2 hA hf => among_any p k n c u A zs w h hk hz hn hn2 hA hf)
  go_wp2_with fail
  refine (TD.out k1 _ HC.out (by omega)).mono ?_
  rintro e w2 ⟨v2, k2, rfl, ⟨z2, rfl⟩, hk2, hc, hg⟩
  have HO2 := Lib.hid (own_grown HO1.out hg hp1)
  have HG2 := Lib.hid (grown_trans HG1.out hg)
  clear HC
  have HC := Lib.hid hc
  clear hc hg HO1 HG1
  go_wp2_with fail
  refine (PO.out k2 _ HC.out (by omega)).mono ?_
  rintro e w3 ⟨v3, k3, rfl, ⟨z3, rfl⟩, hk3, hc, hg⟩
  have HO3 := Lib.hid (own_grown HO2.out hg hp1)
  have HG3 := Lib.hid (grown_trans HG2.out hg)
  clear HC
  have HC := Lib.hid hc
  clear hc hg HO2 HG2
  go_wp2_with fail
  refine (PO.out k3 _ HC.out (by omega)).mono ?_
  rintro e w4 ⟨v4, k4, rfl, ⟨z4, rfl⟩, hk4, hc, hg⟩
  have HO4 := Lib.hid (own_grown HO3.out hg hp1)
  have HG4 := Lib.hid (grown_trans HG3.out hg)
  clear HC
  have HC := Lib.hid hc
  clear hc hg HO3 HG3
  obtain ⟨A, ca, rfl⟩ := own_form HO4.out
  go_wp2_with fail
  refine (SC.out A xs.length ca xs z3 z4 z2 _ rfl (Rd.of_own HO4.out) (by omega)).mono ?_
  rintro e w5 ⟨v5, rfl, o5, b5⟩
  obtain ⟨ok, hok⟩ : ∃ ok, ok = scB xs z3 z4 z2 := ⟨_, rfl⟩
  rw [← hok]
  have hsl := sc_len xs z3 z4 z2
  obtain ⟨ch, hch⟩ : ∃ ch, ch = scV xs z3 z4 z2 := ⟨_, rfl⟩
  rw [← hch] at o5 hsl
  clear hok hch
  have HO5 := Lib.hid (own_below HO4.out b5)
  have HG5 := Lib.hid (grown_trans HG4.out (grown_below b5))
  have HC5 := Lib.hid (HC.out.grown b5)
  have HV5 := Lib.hid o5
  have hs4 : w.heap.size ≤ w4.heap.size := HG4.out.size
  have hp4 : p < w4.heap.size := HC.out.lt
  clear HC HG4 HO4 o5 b5
  cases ok with
  | false =>
    have KT := six_tab w5
    go_wp2_with fail
    refine (PK.out k4 6 (sixW w5) (HC5.out.grown (six_below w5)) (by omega) (by decide) (by decide)).mono ?_
    rintro e w6 ⟨v6, k6, rfl, ⟨r6, rfl, a6, b6⟩, hk6, hc6, hg6⟩
    have hpw : p < w5.heap.size := HC5.out.lt
    have KT6 := KT.grown hg6 (by simp; omega)
    have hgB := grown_trans (grown_below (six_below w5)) hg6
    have HO6 := Lib.hid (own_grown HO5.out hgB hp1)
    have HG6 := Lib.hid (grown_trans HG5.out hgB)
    have HC6 := Lib.hid hc6
    have L0 := Lib.hid ((six_0 w5).grown hg6 (fun A c g o q e1 e2 => by injection e1 with e1; rw [← e1] at e2; injection e2 with e2; injection e2 with e2; omega))
    have t0 := KT6.cell 0 _ rfl
    have L1 := Lib.hid ((six_1 w5).grown hg6 (fun A c g o q e1 e2 => by injection e1 with e1; rw [← e1] at e2; injection e2 with e2; injection e2 with e2; omega))
    have t1 := KT6.cell 1 _ rfl
    have L2 := Lib.hid ((six_2 w5).grown hg6 (fun A c g o q e1 e2 => by injection e1 with e1; rw [← e1] at e2; injection e2 with e2; injection e2 with e2; omega))
    have t2 := KT6.cell 2 _ rfl
    have L3 := Lib.hid ((six_3 w5).grown hg6 (fun A c g o q e1 e2 => by injection e1 with e1; rw [← e1] at e2; injection e2 with e2; injection e2 with e2; omega))
    have t3 := KT6.cell 3 _ rfl
    have L4 := Lib.hid ((six_4 w5).grown hg6 (fun A c g o q e1 e2 => by injection e1 with e1; rw [← e1] at e2; injection e2 with e2; injection e2 with e2; omega))
    have t4 := KT6.cell 4 _ rfl
    have L5 := Lib.hid ((six_5 w5).grown hg6 (fun A c g o q e1 e2 => by injection e1 with e1; rw [← e1] at e2; injection e2 with e2; injection e2 with e2; omega))
    have t5 := KT6.cell 5 _ rfl
    clear KT KT6 hgB hg6 hc6
    have hr6 : r6 = 0 ∨ r6 = 1 ∨ r6 = 2 ∨ r6 = 3 ∨ r6 = 4 ∨ r6 = 5 := by omega
    clear a6 b6
    rcases hr6 with rfl | rfl | rfl | rfl | rfl | rfl
    · go_wp2_with fail
      refine (AM.out k6 8 _ (some ⟨w6.heap.size, 0, none⟩) [0, 1, 50, 99, 1000, 99999, 100000, -1] _ (HC6.out.alloc _) (by omega) rfl (by decide) (by decide) (rd_ints (w := w6) [0, 1, 50, 99, 1000, 99999, 100000, -1] 3) (fun g o q e => by have := HC6.out.lt; injection e with e; injection e with e; omega)).mono ?_
      rintro e w7 ⟨v7, k7, rfl, ⟨z7, -, rfl⟩, hk7, hc7, hg7⟩
      have hgA := grown_trans (World.grownBy_alloc w6 _ _) hg7
      have HO7 := Lib.hid (own_grown HO6.out hgA hp1)
      have HG7 := Lib.hid (grown_trans HG6.out hgA)
      have HL7 := Lib.hid (L0.out.grown hgA (fun A c g o q e1 e2 => by injection e1 with e1; rw [← e1] at e2; injection e2 with e2; injection e2 with e2; omega))
      clear hc7 hg7 hgA
      go_wp2
      refine bodyPost_ret (v := .tuple #[.slice A xs.length ca, .slice (some ⟨w5.heap.size, 0, none⟩) 2 2, .int .i64 z2, .int .i64 z7]) (by simp [results, Try.results15, go_sem]) rfl ?_
      exact ⟨_, xs, _, _, z2, z7, rfl, Lst.of HO7.out hx, HL7.out, (Below.refl _ _).grown HG7.out (Nat.le_refl _) (fun k hk => by injection hk with hk; have := HP.out; omega)⟩
    · go_wp2_with fail
      refine (AM.out k6 8 _ (some ⟨w6.heap.size, 0, none⟩) [0, 1, 50, 99, 1000, 99999, 100000, -1] _ (HC6.out.alloc _) (by omega) rfl (by decide) (by decide) (rd_ints (w := w6) [0, 1, 50, 99, 1000, 99999, 100000, -1] 3) (fun g o q e => by have := HC6.out.lt; injection e with e; injection e with e; omega)).mono ?_
      rintro e w7 ⟨v7, k7, rfl, ⟨z7, -, rfl⟩, hk7, hc7, hg7⟩
      have hgA := grown_trans (World.grownBy_alloc w6 _ _) hg7
      have HO7 := Lib.hid (own_grown HO6.out hgA hp1)
      have HG7 := Lib.hid (grown_trans HG6.out hgA)
      have HL7 := Lib.hid (L1.out.grown hgA (fun A c g o q e1 e2 => by injection e1 with e1; rw [← e1] at e2; injection e2 with e2; injection e2 with e2; omega))
      clear hc7 hg7 hgA
      go_wp2
      refine bodyPost_ret (v := .tuple #[.slice A xs.length ca, .slice (some ⟨w5.heap.size + 1, 0, none⟩) 1 1, .int .i64 z2, .int .i64 z7]) (by simp [results, Try.results15, go_sem]) rfl ?_
      exact ⟨_, xs, _, _, z2, z7, rfl, Lst.of HO7.out hx, HL7.out, (Below.refl _ _).grown HG7.out (Nat.le_refl _) (fun k hk => by injection hk with hk; have := HP.out; omega)⟩
    · go_wp2_with fail
      refine (AM.out k6 8 _ (some ⟨w6.heap.size, 0, none⟩) [0, 1, 50, 99, 1000, 99999, 100000, -1] _ (HC6.out.alloc _) (by omega) rfl (by decide) (by decide) (rd_ints (w := w6) [0, 1, 50, 99, 1000, 99999, 100000, -1] 3) (fun g o q e => by have := HC6.out.lt; injection e with e; injection e with e; omega)).mono ?_
      rintro e w7 ⟨v7, k7, rfl, ⟨z7, -, rfl⟩, hk7, hc7, hg7⟩
      have hgA := grown_trans (World.grownBy_alloc w6 _ _) hg7
      have HO7 := Lib.hid (own_grown HO6.out hgA hp1)
      have HG7 := Lib.hid (grown_trans HG6.out hgA)
      have HL7 := Lib.hid (L2.out.grown hgA (fun A c g o q e1 e2 => by injection e1 with e1; rw [← e1] at e2; injection e2 with e2; injection e2 with e2; omega))
      clear hc7 hg7 hgA
      go_wp2
      refine bodyPost_ret (v := .tuple #[.slice A xs.length ca, .slice (some ⟨w5.heap.size + 1 + 1, 0, none⟩) 0 0, .int .i64 z2, .int .i64 z7]) (by simp [results, Try.results15, go_sem]) rfl ?_
      exact ⟨_, xs, _, _, z2, z7, rfl, Lst.of HO7.out hx, HL7.out, (Below.refl _ _).grown HG7.out (Nat.le_refl _) (fun k hk => by injection hk with hk; have := HP.out; omega)⟩
    · go_wp2_with fail
      refine (AM.out k6 8 _ (some ⟨w6.heap.size, 0, none⟩) [0, 1, 50, 99, 1000, 99999, 100000, -1] _ (HC6.out.alloc _) (by omega) rfl (by decide) (by decide) (rd_ints (w := w6) [0, 1, 50, 99, 1000, 99999, 100000, -1] 3) (fun g o q e => by have := HC6.out.lt; injection e with e; injection e with e; omega)).mono ?_
      rintro e w7 ⟨v7, k7, rfl, ⟨z7, -, rfl⟩, hk7, hc7, hg7⟩
      have hgA := grown_trans (World.grownBy_alloc w6 _ _) hg7
      have HO7 := Lib.hid (own_grown HO6.out hgA hp1)
      have HG7 := Lib.hid (grown_trans HG6.out hgA)
      have HL7 := Lib.hid (L3.out.grown hgA (fun A c g o q e1 e2 => by injection e1 with e1; rw [← e1] at e2; injection e2 with e2; injection e2 with e2; omega))
      clear hc7 hg7 hgA
      go_wp2
      refine bodyPost_ret (v := .tuple #[.slice A xs.length ca, .slice (some ⟨w5.heap.size + 1 + 1 + 1, 0, none⟩) 2 2, .int .i64 z2, .int .i64 z7]) (by simp [results, Try.results15, go_sem]) rfl ?_
      exact ⟨_, xs, _, _, z2, z7, rfl, Lst.of HO7.out hx, HL7.out, (Below.refl _ _).grown HG7.out (Nat.le_refl _) (fun k hk => by injection hk with hk; have := HP.out; omega)⟩
    · go_wp2_with fail
      refine (AM.out k6 8 _ (some ⟨w6.heap.size, 0, none⟩) [0, 1, 50, 99, 1000, 99999, 100000, -1] _ (HC6.out.alloc _) (by omega) rfl (by decide) (by decide) (rd_ints (w := w6) [0, 1, 50, 99, 1000, 99999, 100000, -1] 3) (fun g o q e => by have := HC6.out.lt; injection e with e; injection e with e; omega)).mono ?_
      rintro e w7 ⟨v7, k7, rfl, ⟨z7, -, rfl⟩, hk7, hc7, hg7⟩
      have hgA := grown_trans (World.grownBy_alloc w6 _ _) hg7
      have HO7 := Lib.hid (own_grown HO6.out hgA hp1)
      have HG7 := Lib.hid (grown_trans HG6.out hgA)
      have HL7 := Lib.hid (L4.out.grown hgA (fun A c g o q e1 e2 => by injection e1 with e1; rw [← e1] at e2; injection e2 with e2; injection e2 with e2; omega))
      clear hc7 hg7 hgA
      go_wp2
      refine bodyPost_ret (v := .tuple #[.slice A xs.length ca, .slice (some ⟨w5.heap.size + 1 + 1 + 1 + 1, 0, none⟩) 3 3, .int .i64 z2, .int .i64 z7]) (by simp [results, Try.results15, go_sem]) rfl ?_
      exact ⟨_, xs, _, _, z2, z7, rfl, Lst.of HO7.out hx, HL7.out, (Below.refl _ _).grown HG7.out (Nat.le_refl _) (fun k hk => by injection hk with hk; have := HP.out; omega)⟩
    · go_wp2_with fail
      refine (AM.out k6 8 _ (some ⟨w6.heap.size, 0, none⟩) [0, 1, 50, 99, 1000, 99999, 100000, -1] _ (HC6.out.alloc _) (by omega) rfl (by decide) (by decide) (rd_ints (w := w6) [0, 1, 50, 99, 1000, 99999, 100000, -1] 3) (fun g o q e => by have := HC6.out.lt; injection e with e; injection e with e; omega)).mono ?_
      rintro e w7 ⟨v7, k7, rfl, ⟨z7, -, rfl⟩, hk7, hc7, hg7⟩
      have hgA := grown_trans (World.grownBy_alloc w6 _ _) hg7
      have HO7 := Lib.hid (own_grown HO6.out hgA hp1)
      have HG7 := Lib.hid (grown_trans HG6.out hgA)
      have HL7 := Lib.hid (L5.out.grown hgA (fun A c g o q e1 e2 => by injection e1 with e1; rw [← e1] at e2; injection e2 with e2; injection e2 with e2; omega))
      clear hc7 hg7 hgA
      go_wp2
      refine bodyPost_ret (v := .tuple #[.slice A xs.length ca, .slice (some ⟨w5.heap.size + 1 + 1 + 1 + 1 + 1, 0, none⟩) 2 2, .int .i64 z2, .int .i64 z7]) (by simp [results, Try.results15, go_sem]) rfl ?_
      exact ⟨_, xs, _, _, z2, z7, rfl, Lst.of HO7.out hx, HL7.out, (Below.refl _ _).grown HG7.out (Nat.le_refl _) (fun k hk => by injection hk with hk; have := HP.out; omega)⟩
  | true =>
    go_wp2_with fail
    refine (ON.out k4 8 _ HC5.out (by omega) (by decide) (by decide)).mono ?_
    rintro e w8 ⟨v8, k8, rfl, ⟨b8, rfl⟩, hk8, hc8, hg8⟩
    have HO8 := Lib.hid (own_grown HO5.out hg8 hp1)
    have HG8 := Lib.hid (grown_trans HG5.out hg8)
    have HC8 := Lib.hid hc8
    have HV8 := Lib.hid (own_grown HV5.out hg8 hp4)
    clear hc8 hg8
    cases b8 with
    | true =>
      have KT := six_tab w8
      go_wp2_with fail
      refine (PK.out k8 6 (sixW w8) (HC8.out.grown (six_below w8)) (by omega) (by decide) (by decide)).mono ?_
      rintro e w6 ⟨v6, k6, rfl, ⟨r6, rfl, a6, b6⟩, hk6, hc6, hg6⟩
      have hpw : p < w8.heap.size := HC8.out.lt
      have KT6 := KT.grown hg6 (by simp; omega)
      have hgB := grown_trans (grown_below (six_below w8)) hg6
      have HO6 := Lib.hid (own_grown HO8.out hgB hp1)
      have HG6 := Lib.hid (grown_trans HG8.out hgB)
      have HC6 := Lib.hid hc6
      have L0 := Lib.hid ((six_0 w8).grown hg6 (fun A c g o q e1 e2 => by injection e1 with e1; rw [← e1] at e2; injection e2 with e2; injection e2 with e2; omega))
      have t0 := KT6.cell 0 _ rfl
      have L1 := Lib.hid ((six_1 w8).grown hg6 (fun A c g o q e1 e2 => by injection e1 with e1; rw [← e1] at e2; injection e2 with e2; injection e2 with e2; omega))
      have t1 := KT6.cell 1 _ rfl
      have L2 := Lib.hid ((six_2 w8).grown hg6 (fun A c g o q e1 e2 => by injection e1 with e1; rw [← e1] at e2; injection e2 with e2; injection e2 with e2; omega))
      have t2 := KT6.cell 2 _ rfl
      have L3 := Lib.hid ((six_3 w8).grown hg6 (fun A c g o q e1 e2 => by injection e1 with e1; rw [← e1] at e2; injection e2 with e2; injection e2 with e2; omega))
      have t3 := KT6.cell 3 _ rfl
      have L4 := Lib.hid ((six_4 w8).grown hg6 (fun A c g o q e1 e2 => by injection e1 with e1; rw [← e1] at e2; injection e2 with e2; injection e2 with e2; omega))
      have t4 := KT6.cell 4 _ rfl
      have L5 := Lib.hid ((six_5 w8).grown hg6 (fun A c g o q e1 e2 => by injection e1 with e1; rw [← e1] at e2; injection e2 with e2; injection e2 with e2; omega))
      have t5 := KT6.cell 5 _ rfl
      clear KT KT6 hgB hg6 hc6
      have hr6 : r6 = 0 ∨ r6 = 1 ∨ r6 = 2 ∨ r6 = 3 ∨ r6 = 4 ∨ r6 = 5 := by omega
      clear a6 b6
      rcases hr6 with rfl | rfl | rfl | rfl | rfl | rfl
      · go_wp2_with fail
        refine (AM.out k6 8 _ (some ⟨w6.heap.size, 0, none⟩) [0, 1, 50, 99, 1000, 99999, 100000, -1] _ (HC6.out.alloc _) (by omega) rfl (by decide) (by decide) (rd_ints (w := w6) [0, 1, 50, 99, 1000, 99999, 100000, -1] 3) (fun g o q e => by have := HC6.out.lt; injection e with e; injection e with e; omega)).mono ?_
        rintro e w7 ⟨v7, k7, rfl, ⟨z7, -, rfl⟩, hk7, hc7, hg7⟩
        have hgA := grown_trans (World.grownBy_alloc w6 _ _) hg7
        have HO7 := Lib.hid (own_grown HO6.out hgA hp1)
        have HG7 := Lib.hid (grown_trans HG6.out hgA)
        have HL7 := Lib.hid (L0.out.grown hgA (fun A c g o q e1 e2 => by injection e1 with e1; rw [← e1] at e2; injection e2 with e2; injection e2 with e2; omega))
        clear hc7 hg7 hgA
        go_wp2
        refine bodyPost_ret (v := .tuple #[.slice A xs.length ca, .slice (some ⟨w8.heap.size, 0, none⟩) 2 2, .int .i64 z2, .int .i64 z7]) (by simp [results, Try.results15, go_sem]) rfl ?_
        exact ⟨_, xs, _, _, z2, z7, rfl, Lst.of HO7.out hx, HL7.out, (Below.refl _ _).grown HG7.out (Nat.le_refl _) (fun k hk => by injection hk with hk; have := HP.out; omega)⟩
      · go_wp2_with fail
        refine (AM.out k6 8 _ (some ⟨w6.heap.size, 0, none⟩) [0, 1, 50, 99, 1000, 99999, 100000, -1] _ (HC6.out.alloc _) (by omega) rfl (by decide) (by decide) (rd_ints (w := w6) [0, 1, 50, 99, 1000, 99999, 100000, -1] 3) (fun g o q e => by have := HC6.out.lt; injection e with e; injection e with e; omega)).mono ?_
        rintro e w7 ⟨v7, k7, rfl, ⟨z7, -, rfl⟩, hk7, hc7, hg7⟩
        have hgA := grown_trans (World.grownBy_alloc w6 _ _) hg7
        have HO7 := Lib.hid (own_grown HO6.out hgA hp1)
        have HG7 := Lib.hid (grown_trans HG6.out hgA)
        have HL7 := Lib.hid (L1.out.grown hgA (fun A c g o q e1 e2 => by injection e1 with e1; rw [← e1] at e2; injection e2 with e2; injection e2 with e2; omega))
        clear hc7 hg7 hgA
        go_wp2
        refine bodyPost_ret (v := .tuple #[.slice A xs.length ca, .slice (some ⟨w8.heap.size + 1, 0, none⟩) 1 1, .int .i64 z2, .int .i64 z7]) (by simp [results, Try.results15, go_sem]) rfl ?_
        exact ⟨_, xs, _, _, z2, z7, rfl, Lst.of HO7.out hx, HL7.out, (Below.refl _ _).grown HG7.out (Nat.le_refl _) (fun k hk => by injection hk with hk; have := HP.out; omega)⟩
      · go_wp2_with fail
        refine (AM.out k6 8 _ (some ⟨w6.heap.size, 0, none⟩) [0, 1, 50, 99, 1000, 99999, 100000, -1] _ (HC6.out.alloc _) (by omega) rfl (by decide) (by decide) (rd_ints (w := w6) [0, 1, 50, 99, 1000, 99999, 100000, -1] 3) (fun g o q e => by have := HC6.out.lt; injection e with e; injection e with e; omega)).mono ?_
        rintro e w7 ⟨v7, k7, rfl, ⟨z7, -, rfl⟩, hk7, hc7, hg7⟩
        have hgA := grown_trans (World.grownBy_alloc w6 _ _) hg7
        have HO7 := Lib.hid (own_grown HO6.out hgA hp1)
        have HG7 := Lib.hid (grown_trans HG6.out hgA)
        have HL7 := Lib.hid (L2.out.grown hgA (fun A c g o q e1 e2 => by injection e1 with e1; rw [← e1] at e2; injection e2 with e2; injection e2 with e2; omega))
        clear hc7 hg7 hgA
        go_wp2
        refine bodyPost_ret (v := .tuple #[.slice A xs.length ca, .slice (some ⟨w8.heap.size + 1 + 1, 0, none⟩) 0 0, .int .i64 z2, .int .i64 z7]) (by simp [results, Try.results15, go_sem]) rfl ?_
        exact ⟨_, xs, _, _, z2, z7, rfl, Lst.of HO7.out hx, HL7.out, (Below.refl _ _).grown HG7.out (Nat.le_refl _) (fun k hk => by injection hk with hk; have := HP.out; omega)⟩
      · go_wp2_with fail
        refine (AM.out k6 8 _ (some ⟨w6.heap.size, 0, none⟩) [0, 1, 50, 99, 1000, 99999, 100000, -1] _ (HC6.out.alloc _) (by omega) rfl (by decide) (by decide) (rd_ints (w := w6) [0, 1, 50, 99, 1000, 99999, 100000, -1] 3) (fun g o q e => by have := HC6.out.lt; injection e with e; injection e with e; omega)).mono ?_
        rintro e w7 ⟨v7, k7, rfl, ⟨z7, -, rfl⟩, hk7, hc7, hg7⟩
        have hgA := grown_trans (World.grownBy_alloc w6 _ _) hg7
        have HO7 := Lib.hid (own_grown HO6.out hgA hp1)
        have HG7 := Lib.hid (grown_trans HG6.out hgA)
        have HL7 := Lib.hid (L3.out.grown hgA (fun A c g o q e1 e2 => by injection e1 with e1; rw [← e1] at e2; injection e2 with e2; injection e2 with e2; omega))
        clear hc7 hg7 hgA
        go_wp2
        refine bodyPost_ret (v := .tuple #[.slice A xs.length ca, .slice (some ⟨w8.heap.size + 1 + 1 + 1, 0, none⟩) 2 2, .int .i64 z2, .int .i64 z7]) (by simp [results, Try.results15, go_sem]) rfl ?_
        exact ⟨_, xs, _, _, z2, z7, rfl, Lst.of HO7.out hx, HL7.out, (Below.refl _ _).grown HG7.out (Nat.le_refl _) (fun k hk => by injection hk with hk; have := HP.out; omega)⟩
      · go_wp2_with fail
        refine (AM.out k6 8 _ (some ⟨w6.heap.size, 0, none⟩) [0, 1, 50, 99, 1000, 99999, 100000, -1] _ (HC6.out.alloc _) (by omega) rfl (by decide) (by decide) (rd_ints (w := w6) [0, 1, 50, 99, 1000, 99999, 100000, -1] 3) (fun g o q e => by have := HC6.out.lt; injection e with e; injection e with e; omega)).mono ?_
        rintro e w7 ⟨v7, k7, rfl, ⟨z7, -, rfl⟩, hk7, hc7, hg7⟩
        have hgA := grown_trans (World.grownBy_alloc w6 _ _) hg7
        have HO7 := Lib.hid (own_grown HO6.out hgA hp1)
        have HG7 := Lib.hid (grown_trans HG6.out hgA)
        have HL7 := Lib.hid (L4.out.grown hgA (fun A c g o q e1 e2 => by injection e1 with e1; rw [← e1] at e2; injection e2 with e2; injection e2 with e2; omega))
        clear hc7 hg7 hgA
        go_wp2
        refine bodyPost_ret (v := .tuple #[.slice A xs.length ca, .slice (some ⟨w8.heap.size + 1 + 1 + 1 + 1, 0, none⟩) 3 3, .int .i64 z2, .int .i64 z7]) (by simp [results, Try.results15, go_sem]) rfl ?_
        exact ⟨_, xs, _, _, z2, z7, rfl, Lst.of HO7.out hx, HL7.out, (Below.refl _ _).grown HG7.out (Nat.le_refl _) (fun k hk => by injection hk with hk; have := HP.out; omega)⟩
      · go_wp2_with fail
        refine (AM.out k6 8 _ (some ⟨w6.heap.size, 0, none⟩) [0, 1, 50, 99, 1000, 99999, 100000, -1] _ (HC6.out.alloc _) (by omega) rfl (by decide) (by decide) (rd_ints (w := w6) [0, 1, 50, 99, 1000, 99999, 100000, -1] 3) (fun g o q e => by have := HC6.out.lt; injection e with e; injection e with e; omega)).mono ?_
        rintro e w7 ⟨v7, k7, rfl, ⟨z7, -, rfl⟩, hk7, hc7, hg7⟩
        have hgA := grown_trans (World.grownBy_alloc w6 _ _) hg7
        have HO7 := Lib.hid (own_grown HO6.out hgA hp1)
        have HG7 := Lib.hid (grown_trans HG6.out hgA)
        have HL7 := Lib.hid (L5.out.grown hgA (fun A c g o q e1 e2 => by injection e1 with e1; rw [← e1] at e2; injection e2 with e2; injection e2 with e2; omega))
        clear hc7 hg7 hgA
        go_wp2
        refine bodyPost_ret (v := .tuple #[.slice A xs.length ca, .slice (some ⟨w8.heap.size + 1 + 1 + 1 + 1 + 1, 0, none⟩) 2 2, .int .i64 z2, .int .i64 z7]) (by simp [results, Try.results15, go_sem]) rfl ?_
        exact ⟨_, xs, _, _, z2, z7, rfl, Lst.of HO7.out hx, HL7.out, (Below.refl _ _).grown HG7.out (Nat.le_refl _) (fun k hk => by injection hk with hk; have := HP.out; omega)⟩
    | false =>
      go_wp2_with fail
      refine (AM.out k8 8 _ (some ⟨w8.heap.size, 0, none⟩) [0, 1, 50, 99, 1000, 99999, 100000, -1] _ (HC8.out.alloc _) (by omega) rfl (by decide) (by decide) (rd_ints (w := w8) [0, 1, 50, 99, 1000, 99999, 100000, -1] 3) (fun g o q e => by have := HC8.out.lt; injection e with e; injection e with e; omega)).mono ?_
      rintro e w7 ⟨v7, k7, rfl, ⟨z7, -, rfl⟩, hk7, hc7, hg7⟩
      have hgA := grown_trans (World.grownBy_alloc w8 _ _) hg7
      have HO7 := Lib.hid (own_grown HO8.out hgA hp1)
      have HG7 := Lib.hid (grown_trans HG8.out hgA)
      have HL7 := Lib.hid (LstI.of (own_grown HV8.out hgA hp4) (by omega))
      clear hc7 hg7 hgA
      go_wp2
      refine bodyPost_ret (v := .tuple #[.slice A xs.length ca, v5, .int .i64 z2, .int .i64 z7]) (by simp [results, Try.results15, go_sem]) rfl ?_
      exact ⟨_, xs, _, ch, z2, z7, rfl, Lst.of HO7.out hx, HL7.out, (Below.refl _ _).grown HG7.out (Nat.le_refl _) (fun k hk => by injection hk with hk; have := HP.out; omega)⟩

end Go.Proofs.Ytpmklcpplpnlhaa
