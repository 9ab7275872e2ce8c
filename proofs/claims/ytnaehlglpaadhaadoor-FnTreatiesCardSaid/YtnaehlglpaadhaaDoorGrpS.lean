/- The groups of posts: the reference. -/
import Derived.Test.YtnaehlglpaadhaaDoorGrp
import Derived.Test.YtnaehlglpaadhaaDoorGrid
import Derived.Test.YtnaehlglpaadhaaDoorTreF
import Derived.Test.YtnaehlglpaadhaaDoorPutF
namespace Go.Proofs.YtnaehlglpaadhaaDoor
set_option linter.unusedVariables false
set_option linter.unusedSimpArgs false
open Go.RowKit

/-- The call returns a list of rows in memory of its own, and a Bool. -/
def RetOwnSB (E EI : Nat) (gs : List (List Int)) (b : Bool) (W : World) : Ending → World → Prop := fun e w' => ∃ v vs, e = .returned (.tuple #[v, .bool b]) ∧ OwnS w' W.heap.size E EI v gs vs ∧ Below W.heap.size W w'
theorem info27 : (Tryd.prog.info? 27).map (fun i => (i.zero, i.size, i.bytes)) = some (some (.slice none 0 0), 1, 24) := by kernel_rfl
theorem own_types {w : World} {b1 b2 e1 e2 s1 s2 n1 n2 : Nat} {v1 v2 : Value} {c1 c2 : List Value} (h1 : w.ownsRow b1 e1 s1 v1 n1 c1) (h2 : w.ownsRow b2 e2 s2 v2 n2 c2) (he : e1 ≠ e2) : ∀ k, v1.ownBlock = some k → v2.ownBlock ≠ some k := by
  intro k hk hk2
  rcases h1.2 with ⟨rfl, _⟩ | ⟨g, cap, cur, rfl, _, hg, _⟩
  · cases hk
  · rcases h2.2 with ⟨rfl, _⟩ | ⟨g2, cap2, cur2, rfl, _, hg2, _⟩
    · cases hk2
    · simp only [Value.ownBlock, Option.map_some, Option.some.injEq] at hk hk2
      subst hk; subst hk2
      rw [hg] at hg2
      injection hg2 with hg2
      injection hg2 with _ h3
      exact he h3
theorem ownS_empty (w : World) (lo E EI : Nat) (hb : lo ≤ w.heap.size) : OwnS (w.alloc (.cells #[] E)) lo E EI (.slice (some ⟨w.heap.size, 0, none⟩) 0 0) [] [] :=
  ⟨rfl, own_empty w lo E 1 hb, fun j x u hx _ => by simp at hx, apart_cons (fun i j a b k _ ha => by simp at ha) (fun j b k hb => by simp at hb)⟩
theorem oneCell_int1 (z : Int) : ∀ u ∈ [Value.int .i64 z], u.oneCell' = true := by intro u hu; simp at hu; subst hu; rfl
theorem oneCell_sl (A : Option Addr) (n c : Nat) : ∀ u ∈ [Value.slice A n c], u.oneCell' = true := by intro u hu; simp at hu; subst hu; rfl
theorem filP_yes {f : Int → Bool} {b : Nat} (hb : b < 9) (h : f b = true) : (posts.take (b + 1)).filter f = (posts.take b).filter f ++ [(b : Int)] := by
  rw [posts_take hb, List.filter_append]; simp [h]
theorem filP_no {f : Int → Bool} {b : Nat} (hb : b < 9) (h : f b = false) : (posts.take (b + 1)).filter f = (posts.take b).filter f := by
  rw [posts_take hb, List.filter_append]; simp [h]
theorem posts_all : posts.take 9 = posts := rfl

set_option maxRecDepth 20000 in
set_option maxHeartbeats 8000000 in
theorem specPostGroups_any (A : Option Addr) (n c : Nat) (xs : List R5) (day : Int) (w : World) (hn : xs.length = n) (hA : Rd w A (cells5 xs)) (h20 : n ≤ 1048576) :
    Calls Tryd.prog 12 #[.slice A n c, .int .i64 day] w (RetOwnSB 27 3 (gpV xs day) (gpB xs day) w) := by
  have C0 := Lib.hid (fun w h => l25Good_any A n c xs w hn h h20)
  have C1 := Lib.hid (fun w => l2Day_any day w)
  have HA := Lib.hid hA
  have HN := Lib.hid hn
  obtain ⟨w0, hw0⟩ : ∃ w0, w0 = w.alloc (.cells #[] 27) := ⟨_, rfl⟩
  have hb0 : Below w.heap.size w w0 := by rw [hw0]; exact (Below.refl _ _).alloc (Nat.le_refl _) _
  have hs0 : w.heap.size < w0.heap.size := by rw [hw0]; simp
  have HO0 : Hid (OwnS w0 w.heap.size 27 3 (.slice (some ⟨w.heap.size, 0, none⟩) 0 0) [] []) := Lib.hid (by rw [hw0]; exact ownS_empty w _ _ _ (Nat.le_refl _))
  have HB0 := Lib.hid hb0
  clear hA hb0
  cases hv : trL xs with
  | false =>
    rw [hv] at C0
    have hB : gpB xs day = false := by simp [gpB, hv]
    rw [gp_no hB, hB]
    clear hB hv hn
    go_enter Tryd.func12, Tryd.ntmps12
    go_wp2_with fail
    rw [← hw0]
    clear hw0
    refine (C0.out _ (HA.out.below HB0.out)).mono ?_
    rintro e w1 ⟨rfl, b1⟩
    go_wp2
    go_ret2
    exact ⟨_, [], rfl, HO0.out.below b1, HB0.out.trans (b1.mono (by omega))⟩
  | true =>
    rw [hv] at C0
    cases hd : inR day 0 4000 with
    | false =>
      rw [hd] at C1
      have hB : gpB xs day = false := by simp [gpB, hd]
      rw [gp_no hB, hB]
      clear hB hv hd hn
      go_enter Tryd.func12, Tryd.ntmps12
      go_wp2_with fail
      rw [← hw0]
      clear hw0
      refine (C0.out _ (HA.out.below HB0.out)).mono ?_
      rintro e w1 ⟨rfl, b1⟩
      go_wp2_with fail
      refine (C1.out _).mono ?_
      rintro e w2 ⟨rfl, rfl⟩
      go_wp2
      go_ret2
      exact ⟨_, [], rfl, HO0.out.below b1, HB0.out.trans (b1.mono (by omega))⟩
    | true =>
      rw [hd] at C1
      have hB : gpB xs day = true := by simp [gpB, hv, hd]
      rw [gp_yes hB, hB]
      have HV := Lib.hid hv
      have h20' := trL_len hv
      clear hB hv hd hn
      go_enter Tryd.func12, Tryd.ntmps12
      go_wp2_with fail
      rw [← hw0]
      clear hw0
      refine (C0.out _ (HA.out.below HB0.out)).mono ?_
      rintro e w1 ⟨rfl, b1⟩
      have HO1 := Lib.hid (HO0.out.below b1)
      have HB1 := Lib.hid (HB0.out.trans (b1.mono (by omega)))
      have hs1 := b1.size
      clear b1 HO0 HB0
      go_wp2_with fail
      refine (C1.out _).mono ?_
      rintro e w2 ⟨rfl, rfl⟩
      have hb2 : Below w1.heap.size w1 (w1.alloc (.cells #[] 3)) := (Below.refl _ _).alloc (Nat.le_refl _) _
      have HO2 := Lib.hid (HO1.out.below hb2)
      have HB2 := Lib.hid (HB1.out.trans (hb2.mono (by omega)))
      have HK2 := Lib.hid (own_empty w1 w.heap.size 3 1 (by omega))
      clear hb2 HO1 HB1
      go_wp2_with fail
      go_loopw [6, 7, 8, 9, 10, 11] (fun vo vk i _ _ _ wr => ∃ (j : Nat) (vs : List Value) (l : List Int), i = .int .i64 j ∧ j ≤ 9 ∧ l.length ≤ 9 * j ∧ (∀ z, z ∈ l ↔ KnV xs day j z) ∧ OwnS wr w.heap.size 27 3 vo (grpsN xs day j) vs ∧ wr.ownsRow w.heap.size 3 1 vk l.length (cells1 l) ∧ Below w.heap.size w wr) (fun _ _ i _ _ _ _ => 9 - (intOf i).toNat)
      case atStart => exact ⟨0, [], [], rfl, by omega, by simp, fun z => by simp [KnV.zero], by simpa [grpsN] using HO2.out, HK2.out, HB2.out⟩
      case round =>
        obtain ⟨wO, hwO⟩ : ∃ x, x = wr := ⟨wr, rfl⟩
        subst hwO
        obtain ⟨j, vs, l, rfl, hj, hll, hkn, hO, hK, hb⟩ := hrel
        have HO := Lib.hid hO
        have HK := Lib.hid hK
        have HB := Lib.hid hb
        have HKN := Lib.hid hkn
        have hsz := hb.size
        obtain ⟨Ak, ck, rfl⟩ := own_form hK
        obtain ⟨Ao, co, rfl⟩ := own_form hO.2.1
        have hg9 := grpsN_len xs day j
        clear hO hK hb hkn HO2 HK2 HB2
        by_cases hlt : j < 9
        · have hltd : (j : Int) < 9 := by omega
          go_wp2_with fail
          refine (l1Has_any Ak l.length ck l j _ rfl (Rd.of_own HK.out) (by omega)).mono ?_
          rintro e w3 ⟨rfl, rfl⟩
          have HO3 := HO
          have HK3 := HK
          have HB3 := HB
          clear HO HK HB
          cases hh : hasB l j with
          | true =>
            have hkj : KnV xs day j j := (HKN.out _).1 (hasB_true.1 hh)
            have HNX : Hid (grpsN xs day (j + 1) = grpsN xs day j) := Lib.hid (grpsN_no hlt (by cases hf : fstB xs day j with | false => rfl | true => exact absurd hkj ((fst_true HV.out hlt).1 hf)))
            have HKX : Hid (∀ z, z ∈ l ↔ KnV xs day (j + 1) z) := Lib.hid (fun z => (HKN.out z).trans (KnV.skip HV.out hkj).symm)
            clear hh hkj
            go_wp2
            go_roundw
            case rel => exact ⟨j + 1, vs, l, by go_num, by omega, by omega, HKX.out, by rw [HNX.out]; exact HO3.out, HK3.out, HB3.out⟩
            case measure => simp [intOf]; omega
          | false =>
            have hkj : ¬ KnV xs day j j := fun h => hasB_false.1 hh ((HKN.out _).2 h)
            have HNX : Hid (grpsN xs day (j + 1) = grpsN xs day j ++ [grpV xs day j]) := Lib.hid (grpsN_yes hlt ((fst_true HV.out hlt).2 hkj))
            clear hh hkj
            go_wp2_with fail
            refine (l25Steps_any A n c xs j day _ HN.out (HA.out.below HB3.out) HV.out hlt).mono ?_
            rintro e w4 ⟨D, rfl, hdist, hD⟩
            have hs3 := HB3.out.size
            have hs4 := hD.2.size
            have hD9 := hdist.size
            have HO4 := Lib.hid (HO3.out.below hD.2)
            have HK4 := Lib.hid (own_below HK3.out hD.2)
            have HB4 := Lib.hid (HB3.out.trans (hD.2.mono hs3))
            have hb5 : Below w4.heap.size w4 (w4.alloc (.cells #[] 3)) := (Below.refl _ _).alloc (Nat.le_refl _) _
            have HO5 := Lib.hid (HO4.out.below hb5)
            have HK5 := Lib.hid (own_below HK4.out hb5)
            have HD5 := Lib.hid (own_below hD.1 hb5)
            have HB5 := Lib.hid (HB4.out.trans (hb5.mono (by omega)))
            have HG5 := Lib.hid (own_empty w4 w4.heap.size 3 1 (Nat.le_refl _))
            have HDI := Lib.hid hdist
            have HOL := Lib.hid (fun (q : Nat) (a : Value) (k : Nat) h1 h2 => (HO4.out.lt q a k h1 h2).2)
            have hs3b : wO.heap.size < w4.heap.size := (hD.1.lt _ rfl).2
            have HKL := Lib.hid (fun (k : Nat) h => (HK4.out.lt k h).2)
            clear hD hdist hb5 HO4 HK4 HB4 HO3 HK3
            go_wp2_with fail
            go_loopw [7, 10, 11] (fun vk vg i wr' => ∃ (b : Nat) (l' : List Int), i = .int .i64 b ∧ b ≤ 9 ∧ l'.length ≤ l.length + b ∧ (∀ z, z ∈ l' ↔ z ∈ l ∨ z ∈ (posts.take b).filter (fun q => chB xs j q day)) ∧ OwnS wr' w.heap.size 27 3 (.slice Ao (grpsN xs day j).length co) (grpsN xs day j) vs ∧ wr'.ownsRow w.heap.size 3 1 vk l'.length (cells1 l') ∧
              wr'.ownsRow w4.heap.size 3 1 vg ((posts.take b).filter (fun q => chB xs j q day)).length (cells1 ((posts.take b).filter (fun q => chB xs j q day))) ∧ wr'.ownsRow wO.heap.size 3 1 (.slice (some ⟨wO.heap.size, 0, none⟩) 9 9) 9 (cells1 D) ∧ (∀ k, vk.ownBlock = some k → vg.ownBlock ≠ some k) ∧ w4.heap.size ≤ wr'.heap.size ∧ Below w.heap.size w wr') (fun _ _ i _ => 9 - (intOf i).toNat)
            case atStart =>
              refine ⟨0, l, rfl, by omega, by omega, fun z => by simp, HO5.out, HK5.out, HG5.out, HD5.out, fun k hk e => ?_, by simp, HB5.out⟩
              have h1 := HK5.out
              have h2 : k < w4.heap.size := HKL.out k hk
              simp only [Value.ownBlock, Option.map_some, Option.some.injEq] at e
              omega
            case round =>
              obtain ⟨b, l', rfl, hb9, hl', hmem, hO, hK, hG, hD, hap, hsw, hbw⟩ := hrel
              obtain ⟨Ag, cg, rfl⟩ := own_form hG
              obtain ⟨Ak', ck', rfl⟩ := own_form hK
              obtain ⟨G, hGd⟩ : ∃ G, G = (posts.take b).filter (fun q => chB xs j q day) := ⟨_, rfl⟩
              have hG9 : G.length ≤ 9 := by rw [hGd]; refine Nat.le_trans (List.length_filter_le _ _) ?_; rw [List.length_take]; simp [posts]; omega
              rw [← hGd] at hG hmem hap ⊢
              have HGD := Lib.hid hGd
              have HO := Lib.hid hO
              have HK := Lib.hid hK
              have HG := Lib.hid hG
              have HD := Lib.hid hD
              have HAP := Lib.hid hap
              have HM := Lib.hid hmem
              have HB := Lib.hid hbw
              clear hO hK hG hD hap hmem hbw hGd HO5 HK5 HG5 HD5 HB5
              by_cases hlb : b < 9
              · have hlbd : (b : Int) < 9 := by omega
                have hb0 : (0 : Int) ≤ (b : Int) := by omega
                obtain ⟨d, hd⟩ : ∃ d, D[b]? = some d := ⟨D[b], List.getElem?_eq_getElem (by omega)⟩
                have cd := own_cell1 HD.out hd
                have hgw : wO.heap.size < wr.heap.size := by omega
                have hch : chB xs j b day = decide (d < 99) := by
                  have h1 := HDI.out.reach (u := (b : Int)) (by omega)
                  rw [dAt_get hd] at h1
                  cases hc : chB xs j b day with
                  | true => exact (decide_eq_true (h1.1 (chB_reach.1 hc))).symm
                  | false => refine (decide_eq_false fun h => ?_).symm; rw [chB_reach.2 (h1.2 h)] at hc; cases hc
                by_cases hd99 : d < 99
                · rw [decide_eq_true hd99] at hch
                  have HGN : Hid ((posts.take (b + 1)).filter (fun q => chB xs j q day) = G ++ [(b : Int)]) := Lib.hid (by rw [filP_yes (f := fun q => chB xs j q day) hlb hch, HGD.out])
                  have hb1 : Below wr.heap.size wr (wr.alloc (.cells #[.int .i64 b] 3)) := (Below.refl _ _).alloc (Nat.le_refl _) _
                  have HGa := Lib.hid (own_below HG.out hb1)
                  have HKa := Lib.hid (own_below HK.out hb1)
                  have HDa := Lib.hid (own_below HD.out hb1)
                  have HOa := Lib.hid (HO.out.below hb1)
                  have HBa := Lib.hid (HB.out.trans (hb1.mono HB.out.size))
                  have HX : Hid (Rd (wr.alloc (.cells #[.int .i64 b] 3)) (some ⟨wr.heap.size, 0, none⟩) [.int .i64 b]) := Lib.hid (rd_new #[.int .i64 b] 3 rfl)
                  have hbs : w4.heap.size ≤ (wr.alloc (.cells #[.int .i64 b] 3)).heap.size := by simp; omega
                  clear hb1 hd hch
                  go_wp2_with (at_builtin; go_must (refine wpList_app _ rfl (.tmp 44) (.tmp 46) 27 rfl w4.heap.size 3 _ 1 8 Tryd.underlying27 infoInt rfl (by omega) _ _ _ rfl HGa.out _ 1 1 [.int .i64 b] rfl rfl HX.out (oneCell_int1 b) (by unfold maxLen; omega) (by omega) hbs ?_); intro v6 w6 o6 g6 d6; refine Hid.out ?_)
                  have d6 : v6.ownBlock = (Value.slice Ag G.length cg).ownBlock ∨ v6.ownBlock = some (wr.alloc (.cells #[.int .i64 b] 3)).heap.size := d6
                  have hlo : ∀ k, (Value.slice Ag G.length cg).ownBlock = some k → w4.heap.size ≤ k := fun k hk => (HGa.out.lt k hk).1
                  have HO6 := Lib.hid (HOa.out.only (Only.of_grown g6) (fun q a k h1 h2 h3 => by have := HOL.out q a k h1 h2; have := hlo k h3; omega))
                  have HK6 := Lib.hid (HKa.out.kept g6 (by
                    cases ek : (Value.slice Ak' l'.length ck').ownBlock with
                    | none => exact .inl rfl
                    | some k => exact .inr fun e => HAP.out k ek e.symm))
                  have HD6 := Lib.hid (HDa.out.kept g6 (.inr fun e => by have := hlo wO.heap.size e.symm; omega))
                  have HB6 := Lib.hid (HBa.out.grown g6 HBa.out.size (fun k hk => by have := hlo k hk; omega))
                  have HG6 : Hid (w6.ownsRow w4.heap.size 3 1 v6 (G ++ [(b : Int)]).length (cells1 (G ++ [(b : Int)]))) := Lib.hid (by rw [cells1_append, List.length_append]; exact o6)
                  have HA6 : Hid (∀ k, v6.ownBlock = some k → ∀ k', (Value.slice Ak' l'.length ck').ownBlock = some k' → k' ≠ k) := Lib.hid (fun k hk k' hk' e => by
                    subst e
                    rcases d6 with e2 | e2
                    · exact HAP.out _ hk' (by rw [← e2]; exact hk)
                    · rw [e2] at hk; injection hk with hk
                      have := (HKa.out.lt _ hk').2; omega)
                  have hs6 := g6.size
                  clear o6 g6 d6 hlo HOa HKa HDa HBa HGa HX hbs HO HK HG HD HB
                  refine Lib.hid ?_
                  go_wp2_with fail
                  refine (l1PutF_any w.heap.size _ l' b _ HK6.out HB6.out.size (by omega)).mono ?_
                  rintro e w7 ⟨v7, rfl, o7, b7, f7⟩
                  have HO7 := Lib.hid (HO6.out.below b7)
                  have HD7 := Lib.hid (own_below HD6.out b7)
                  have HG7 := Lib.hid (own_below HG6.out b7)
                  have HB7 := Lib.hid (HB6.out.trans (b7.mono HB6.out.size))
                  have HA7 : Hid (∀ k, v7.ownBlock = some k → v6.ownBlock ≠ some k) := Lib.hid (fun k hk e => by
                    rcases f7 k hk with h1 | h1
                    · have := (HG6.out.lt k e).2; omega
                    · exact HA6.out k e k h1 rfl)
                  have HK7 := Lib.hid o7
                  have HS7 : Hid (w4.heap.size ≤ w7.heap.size) := Lib.hid (by have := b7.size; simp at hs6; omega)
                  have HLL := Lib.hid (putV_len l' b)
                  have HMM : Hid (∀ z, z ∈ putV l' b ↔ z ∈ l ∨ z ∈ G ++ [(b : Int)]) := Lib.hid (fun z => by rw [putV_mem, HM.out z, List.mem_append]; simp only [List.mem_cons, List.not_mem_nil, or_false]; constructor <;> (intro h; grind))
                  clear o7 b7 f7 HO6 HD6 HG6 HB6 HK6 HA6
                  go_wp2
                  go_roundw
                  case rel => exact ⟨b + 1, putV l' b, by go_num, by omega, by have := HLL.out; omega, by rw [HGN.out]; exact HMM.out, HO7.out, HK7.out, by rw [HGN.out]; exact HG7.out, HD7.out, HA7.out, HS7.out, HB7.out⟩
                  case measure => simp [intOf]; omega
                · rw [decide_eq_false hd99] at hch
                  have HGN : Hid ((posts.take (b + 1)).filter (fun q => chB xs j q day) = G) := Lib.hid (by rw [filP_no (f := fun q => chB xs j q day) hlb hch, HGD.out])
                  have hd99' : 99 ≤ d := by omega
                  clear hd hch hd99
                  go_wp2
                  go_roundw
                  case rel => exact ⟨b + 1, l', by go_num, by omega, by omega, by rw [HGN.out]; exact HM.out, HO.out, HK.out, by rw [HGN.out]; exact HG.out, HD.out, HAP.out, hsw, HB.out⟩
                  case measure => simp [intOf]; omega
              · have hb99 : (9 : Int) ≤ (b : Int) := by omega
                have hbe : b = 9 := by omega
                have HGE : Hid (G = grpV xs day j) := Lib.hid (by rw [HGD.out, hbe, posts_all]; rfl)
                have hb1 : Below wr.heap.size wr (wr.alloc (.cells #[.slice Ag G.length cg] 27)) := (Below.refl _ _).alloc (Nat.le_refl _) _
                have HGa := Lib.hid (own_below HG.out hb1)
                have HKa := Lib.hid (own_below HK.out hb1)
                have HOa := Lib.hid (HO.out.below hb1)
                have HBa := Lib.hid (HB.out.trans (hb1.mono HB.out.size))
                have HX : Hid (Rd (wr.alloc (.cells #[.slice Ag G.length cg] 27)) (some ⟨wr.heap.size, 0, none⟩) [.slice Ag G.length cg]) := Lib.hid (rd_new #[.slice Ag G.length cg] 27 rfl)
                have hbs : w.heap.size ≤ (wr.alloc (.cells #[.slice Ag G.length cg] 27)).heap.size := HBa.out.size
                have hORow := HOa.out.2.1
                have HOR := Lib.hid hORow
                clear hb1 hbe hORow
                go_wp2_with (at_builtin; go_must (refine wpList_app _ rfl (.tmp 51) (.tmp 53) 35 rfl w.heap.size 27 _ 1 24 Tryd.underlying35 info27 rfl (by omega) _ _ _ rfl HOR.out _ 1 1 [.slice Ag G.length cg] rfl rfl HX.out (oneCell_sl _ _ _) (by unfold maxLen; omega) (by omega) hbs ?_); intro v6 w6 o6 g6 d6; refine Hid.out ?_)
                have d6 : v6.ownBlock = (Value.slice Ao (grpsN xs day j).length co).ownBlock ∨ v6.ownBlock = some (wr.alloc (.cells #[.slice Ag G.length cg] 27)).heap.size := d6
                have HO6 := Lib.hid (HOa.out.snoc (x := G) o6 g6 (fun k hk => by
                  rcases d6 with e2 | e2
                  · exact .inl (by rw [← e2]; exact hk)
                  · rw [e2] at hk; injection hk with hk; exact .inr (by omega)) (own_mono HGa.out (by have := HB3.out.size; omega)) (fun q a k h1 h2 e => by have := HOL.out q a k h1 h2; have := (HGa.out.lt k e).1; omega))
                have HK6 := Lib.hid (HKa.out.kept g6 (by
                    cases ek : (Value.slice Ak' l'.length ck').ownBlock with
                    | none => exact .inl rfl
                    | some k => exact .inr fun e => own_types HKa.out HOR.out (by decide) k ek e.symm))
                have HB6 := Lib.hid (HBa.out.grown g6 HBa.out.size (fun k hk => (HOR.out.lt k hk).1))
                have HMM : Hid (∀ z, z ∈ l' ↔ KnV xs day (j + 1) z) := Lib.hid (fun z => by rw [HM.out z, KnV.succ hlt, HKN.out z, HGE.out])
                obtain ⟨A6, c6, e6⟩ := own_form o6
                subst e6
                clear o6 g6 d6 HOa HKa HBa HGa HX hbs HOR HO HK HG HD HB
                refine Lib.hid ?_
                go_wp2
                go_roundw
                case rel => exact ⟨j + 1, _, l', by go_num, by omega, by omega, HMM.out, by rw [HNX.out, ← HGE.out]; simpa using HO6.out, HK6.out, HB6.out⟩
                case measure => simp [intOf]; omega
        · have hj9 : j = 9 := by omega
          subst hj9
          go_wp2
          go_ret2
          exact ⟨_, vs, rfl, HO.out, HB.out⟩
end Go.Proofs.YtnaehlglpaadhaaDoor
