/- The groups of posts: the program. -/
import Derived.Test.YtnaehlglpaadhaaDoorGrpS
import Derived.Test.YtnaehlglpaadhaaDoorSortI
namespace Go.Proofs.YtnaehlglpaadhaaDoor
set_option linter.unusedVariables false
set_option linter.unusedSimpArgs false
open Go.RowKit

theorem infoBool : (Tryd.prog.info? 4).map (fun i => (i.zero, i.size, i.bytes)) = some (some (.bool false), 1, 1) := by kernel_rfl
def cellsBl (S : List Bool) : List Value := S.map Value.bool
theorem own_lit1 (w : World) (base e : Nat) (v : Value) (hb : base ≤ w.heap.size) : (w.alloc (.cells #[v] e)).ownsRow base e 1 (.slice (some ⟨w.heap.size, 0, none⟩) 1 1) 1 [v] :=
  World.ownsRow_lit w _ 1 hb (by unfold maxLen; omega) rfl
theorem bAt_rep (z : Int) : bAt (List.replicate 9 false) z = false := by
  unfold bAt; rw [List.getD_eq_getElem?_getD, List.getElem?_replicate]; split <;> rfl
theorem OwnS.apartT {w : World} {lo E EI b2 e2 s2 n2 : Nat} {v r : Value} {gs : List (List Int)} {vs c2 : List Value} (h : OwnS w lo E EI v gs vs) (hr : w.ownsRow b2 e2 s2 r n2 c2) (h1 : E ≠ e2) (h2 : EI ≠ e2) : ∀ (q : Nat) (a : Value) (k : Nat), (v :: vs)[q]? = some a → a.ownBlock = some k → r.ownBlock ≠ some k := by
  intro q a k ha hk
  cases q with
  | zero => simp at ha; subst ha; exact own_types h.2.1 hr h1 k hk
  | succ q =>
    have ha' : vs[q]? = some a := by simpa using ha
    have hq : q < gs.length := by have := (List.getElem?_eq_some_iff.1 ha').1; have := h.1; omega
    exact own_types (h.2.2.1 q gs[q] a (List.getElem?_eq_getElem hq) ha') hr h2 k hk
theorem own_apartO {w : World} {b1 b2 e1 e2 s1 s2 n1 n2 : Nat} {v1 v2 : Value} {c1 c2 : List Value} (h1 : w.ownsRow b1 e1 s1 v1 n1 c1) (h2 : w.ownsRow b2 e2 s2 v2 n2 c2) (he : e1 ≠ e2) : v1.ownBlock = none ∨ v1.ownBlock ≠ v2.ownBlock := by
  cases ek : v1.ownBlock with
  | none => exact .inl rfl
  | some k => exact .inr fun e => own_types h1 h2 he k ek e.symm
/-- The seen posts, in a row of the call's own. -/
theorem seen_cell {w : World} {base s0 : Nat} {S : List Bool} (h : w.ownsRow base 4 1 (.slice (some ⟨s0, 0, none⟩) 9 9) 9 (cellsBl S)) (hS : S.length = 9) {k : Nat} (hk : k < 9) : w.cell? ⟨s0, k, none⟩ = some (.bool (bAt S k)) ∧ w.frozen? ⟨s0, k, none⟩ = false := by
  refine ⟨?_, h.frozenAt k⟩
  rw [h.cellAt k (by omega)]
  simp only [cellsBl, List.getElem?_map, bAt, Int.toNat_natCast, List.getD_eq_getElem?_getD]
  rw [List.getElem?_eq_getElem (by omega)]
  rfl
theorem seen_set {w : World} {base s0 : Nat} {S : List Bool} (h : w.ownsRow base 4 1 (.slice (some ⟨s0, 0, none⟩) 9 9) 9 (cellsBl S)) (k : Nat) : (w.setCell ⟨s0, k, none⟩ (.bool true)).ownsRow base 4 1 (.slice (some ⟨s0, 0, none⟩) 9 9) 9 (cellsBl (S.set k true)) ∧ w.grownBy (w.setCell ⟨s0, k, none⟩ (.bool true)) (some s0) := by
  obtain ⟨h1, h2⟩ := h.stored k (.bool true)
  refine ⟨?_, h2⟩
  have e : (cellsBl S).set k (.bool true) = cellsBl (S.set k true) := by simp [cellsBl, List.map_set]
  rw [e] at h1; exact h1

set_option maxRecDepth 20000 in
set_option maxHeartbeats 8000000 in
theorem implPostGroups_any (A : Option Addr) (n c : Nat) (xs : List R5) (day : Int) (w : World) (hn : xs.length = n) (hA : Rd w A (cells5 xs)) (h20 : n ≤ 1048576) :
    Calls Tryd.prog 11 #[.slice A n c, .int .i64 day] w (RetOwnSB 27 3 (gpV xs day) (gpB xs day) w) := by
  have C0 := Lib.hid (fun w h => areTreaties_any A n c xs w hn h h20)
  have C1 := Lib.hid (fun w => isDay_any day w)
  have HA := Lib.hid hA
  have HN := Lib.hid hn
  have hmk : ∀ W, (Instr.makeSlice 62 (.int .i64 9) (.int .i64 9)).run Tryd.prog W = .ok (.slice (some ⟨W.heap.size, 0, none⟩) 9 9) (W.alloc (.cells (madeCells (Value.cells (.bool false)) 9) 4)) :=
    fun W => run_make_info (P := Tryd.prog) 62 4 _ 1 1 Tryd.underlying62 infoBool 9 (by omega) (by omega) W
  clear hA
  cases hv : trL xs with
  | false =>
    rw [hv] at C0
    have hB : gpB xs day = false := by simp [gpB, hv]
    rw [gp_no hB, hB]
    clear hB hv hn
    go_enter Tryd.func11, Tryd.ntmps11
    go_wp2_with fail
    refine (C0.out _ HA.out).mono ?_
    rintro e w1 ⟨rfl, b1⟩
    go_wp2
    go_ret2
    exact ⟨_, [], rfl, OwnS.nil _ _ _ _, b1⟩
  | true =>
    rw [hv] at C0
    cases hd : inR day 0 4000 with
    | false =>
      rw [hd] at C1
      have hB : gpB xs day = false := by simp [gpB, hd]
      rw [gp_no hB, hB]
      clear hB hv hd hn
      go_enter Tryd.func11, Tryd.ntmps11
      go_wp2_with fail
      refine (C0.out _ HA.out).mono ?_
      rintro e w1 ⟨rfl, b1⟩
      go_wp2_with fail
      refine (C1.out _).mono ?_
      rintro e w2 ⟨rfl, rfl⟩
      go_wp2
      go_ret2
      exact ⟨_, [], rfl, OwnS.nil _ _ _ _, b1⟩
    | true =>
      rw [hd] at C1
      have hB : gpB xs day = true := by simp [gpB, hv, hd]
      rw [gp_yes hB, hB]
      have HV := Lib.hid hv
      have h20' := trL_len hv
      clear hB hv hd hn
      go_enter Tryd.func11, Tryd.ntmps11
      go_wp2_with fail
      refine (C0.out _ HA.out).mono ?_
      rintro e w1 ⟨rfl, b1⟩
      have hs1 := b1.size
      go_wp2_with fail
      refine (C1.out _).mono ?_
      rintro e w2 ⟨rfl, rfl⟩
      obtain ⟨s0, hs0⟩ : ∃ s0, s0 = w1.heap.size := ⟨_, rfl⟩
      have HS0 : Hid ((w1.alloc (.cells (madeCells (Value.cells (.bool false)) 9) 4)).ownsRow w.heap.size 4 1 (.slice (some ⟨s0, 0, none⟩) 9 9) 9 (cellsBl (List.replicate 9 false))) := Lib.hid (by
        have h := own_made w1 w.heap.size 4 1 9 (Value.cells (.bool false)) hs1 (by unfold maxLen; omega)
        have e : (madeCells (Value.cells (.bool false)) (9 * 1)).toList = cellsBl (List.replicate 9 false) := by
          rw [show Value.cells (.bool false) = #[.bool false] from rfl, toList_madeCells_one]; simp [cellsBl]
        rw [e] at h
        rw [hs0]; exact h)
      have HB0 : Hid (Below w.heap.size w (w1.alloc (.cells (madeCells (Value.cells (.bool false)) 9) 4))) := Lib.hid (b1.alloc hs1 _)
      have HSS := Lib.hid hs0
      clear b1 hs0
      go_wp2_with fail
      rw [← HSS.out]
      go_loopw [7, 8, 9, 10, 12, 22, 48] (fun vo _ _ _ _ i _ wr => ∃ (j : Nat) (vs : List Value) (S : List Bool), i = .int .i64 j ∧ j ≤ 9 ∧ S.length = 9 ∧ (∀ z, 0 ≤ z → z ≤ 8 → (bAt S z = true ↔ KnV xs day j z)) ∧ OwnS wr w.heap.size 27 3 vo (grpsN xs day j) vs ∧ wr.ownsRow w.heap.size 4 1 (.slice (some ⟨s0, 0, none⟩) 9 9) 9 (cellsBl S) ∧ Below w.heap.size w wr) (fun _ _ _ _ _ i _ _ => 9 - (intOf i).toNat)
      case atStart =>
        exact ⟨0, [], List.replicate 9 false, rfl, by omega, rfl, fun z h1 h2 => ⟨fun h => by rw [bAt_rep] at h; exact absurd h (by simp), fun h => absurd h (KnV.zero _ _ _)⟩, by simpa [grpsN] using OwnS.nil _ _ _ _, HS0.out, HB0.out⟩
      case round =>
        obtain ⟨wO, hwO⟩ : ∃ x, x = wr := ⟨wr, rfl⟩
        subst hwO
        obtain ⟨j, vs, S, rfl, hj, hS, hkn, hO, hR, hb⟩ := hrel
        have HO := Lib.hid hO
        have HR := Lib.hid hR
        have HB := Lib.hid hb
        have HKN := Lib.hid hkn
        have hsz := hb.size
        obtain ⟨Ao, co, rfl⟩ := own_form hO.2.1
        have hg9 := grpsN_len xs day j
        have hs0w : s0 < wO.heap.size := (hR.lt s0 rfl).2
        clear hO hR hb hkn HS0 HB0
        by_cases hlt : j < 9
        · have hltd : (j : Int) < 9 := by omega
          obtain ⟨cs, fs⟩ := seen_cell HR.out hS hlt
          cases hh : bAt S j with
          | true =>
            rw [hh] at cs
            have hkj : KnV xs day j j := (HKN.out _ (by omega) (by omega)).1 hh
            have HNX : Hid (grpsN xs day (j + 1) = grpsN xs day j) := Lib.hid (grpsN_no hlt (by cases hf : fstB xs day j with | false => rfl | true => exact absurd hkj ((fst_true HV.out hlt).1 hf)))
            have HKX : Hid (∀ z, 0 ≤ z → z ≤ 8 → (bAt S z = true ↔ KnV xs day (j + 1) z)) := Lib.hid (fun z h1 h2 => (HKN.out z h1 h2).trans (KnV.skip HV.out hkj).symm)
            clear hh hkj
            go_wp2
            go_roundw
            case rel => exact ⟨j + 1, vs, S, by go_num, by omega, hS, HKX.out, by rw [HNX.out]; exact HO.out, HR.out, HB.out⟩
            case measure => simp [intOf]; omega
          | false =>
            rw [hh] at cs
            have hkj : ¬ KnV xs day j j := fun h => by rw [(HKN.out _ (by omega) (by omega)).2 h] at hh; cases hh
            have HNX : Hid (grpsN xs day (j + 1) = grpsN xs day j ++ [grpV xs day j]) := Lib.hid (grpsN_yes hlt ((fst_true HV.out hlt).2 hkj))
            have HKJ := Lib.hid hkj
            have hr1 := seen_set HR.out j
            have HI1 := Lib.hid (GInv.start (adj := adjT xs day) (f := j) (K := KnV xs day j) ⟨by omega, by omega⟩ hS HKN.out)
            have HOL := Lib.hid (fun (q : Nat) (a : Value) (k : Nat) h1 h2 => (HO.out.lt q a k h1 h2).2)
            have HO1 := Lib.hid (HO.out.only (Only.of_grown hr1.2) (fun q a k h1 h2 h3 => HO.out.apartT HR.out (by decide) (by decide) q a k h1 h2 h3))
            have HB1 := Lib.hid (HB.out.grown hr1.2 HB.out.size (fun k hk => (HR.out.lt k hk).1))
            have hb2 : Below (wO.setCell ⟨s0, j, none⟩ (.bool true)).heap.size (wO.setCell ⟨s0, j, none⟩ (.bool true)) ((wO.setCell ⟨s0, j, none⟩ (.bool true)).alloc (.cells #[.int .i64 j] 3)) := (Below.refl _ _).alloc (Nat.le_refl _) _
            have HO2 := Lib.hid (HO1.out.below hb2)
            have HR2 := Lib.hid (own_below hr1.1 hb2)
            have HB2 := Lib.hid (HB1.out.trans (hb2.mono HB1.out.size))
            have HG2 : Hid (((wO.setCell ⟨s0, j, none⟩ (.bool true)).alloc (.cells #[.int .i64 j] 3)).ownsRow wO.heap.size 3 1 (.slice (some ⟨wO.heap.size, 0, none⟩) 1 1) [(j : Int)].length (cells1 [(j : Int)])) := Lib.hid (by
              have h := own_lit1 (wO.setCell ⟨s0, j, none⟩ (.bool true)) wO.heap.size 3 (.int .i64 j) (by simp)
              rw [show (wO.setCell ⟨s0, j, none⟩ (.bool true)).heap.size = wO.heap.size by simp] at h
              exact h)
            clear hh hkj hr1 hb2 HO1 HB1
            go_wp2_with fail
            go_loopw [9, 10, 12, 48] (fun vg k _ _ wr' => ∃ (q : Nat) (G : List Int) (T : List Bool), k = .int .i64 q ∧ q ≤ G.length ∧ GInv (adjT xs day) j (KnV xs day j) G T q [] ∧ OwnS wr' w.heap.size 27 3 (.slice Ao (grpsN xs day j).length co) (grpsN xs day j) vs ∧
              wr'.ownsRow w.heap.size 4 1 (.slice (some ⟨s0, 0, none⟩) 9 9) 9 (cellsBl T) ∧ wr'.ownsRow wO.heap.size 3 1 vg G.length (cells1 G) ∧ Below w.heap.size w wr' ∧ wO.heap.size ≤ wr'.heap.size) (fun _ k _ _ _ => 9 - (intOf k).toNat)
            case atStart =>
              refine ⟨0, [(j : Int)], _, rfl, by omega, HI1.out, HO2.out, HR2.out, HG2.out, HB2.out, by simp⟩
            case round =>
              obtain ⟨wM, hwM⟩ : ∃ x, x = wr := ⟨wr, rfl⟩
              subst hwM
              obtain ⟨q, G, T, rfl, hqG, hi, hO, hR, hG, hb, hsM⟩ := hrel
              have HI := Lib.hid hi
              have HO := Lib.hid hO
              have HR := Lib.hid hR
              have HG := Lib.hid hG
              have HB := Lib.hid hb
              obtain ⟨Ag, cg, rfl⟩ := own_form hG
              have hG9 := hi.len
              clear hi hO hR hG hb HO2 HR2 HG2 HB2 HI1 cs fs
              by_cases hlq : q < G.length
              · obtain ⟨x, hx⟩ : ∃ x, G[q]? = some x := ⟨G[q], List.getElem?_eq_getElem hlq⟩
                obtain ⟨g, o, hAe, hgl, cx⟩ := (Rd.of_own HG.out).at1 hx
                subst hAe
                have HX := Lib.hid hx
                have HGL := Lib.hid (fun (k : Nat) h => HG.out.lt k h)
                clear hx
                go_wp2_with fail
                refine (partnersOf_any A n c xs x day _ HN.out (HA.out.below HB.out) HV.out).mono ?_
                rintro e w1 ⟨vn, rfl, on, b1⟩
                have HO1 := Lib.hid (HO.out.below b1)
                have HR1 := Lib.hid (own_below HR.out b1)
                have HG1 := Lib.hid (own_below HG.out b1)
                have HB1 := Lib.hid (HB.out.trans (b1.mono HB.out.size))
                have hs1 := b1.size
                obtain ⟨An, cn, rfl⟩ := own_form on
                have hlen := nbL_len xs day x
                obtain ⟨m, hm⟩ : ∃ m, m = (nbL xs day x).length := ⟨_, rfl⟩
                rw [← hm] at hlen on
                rw [← hm]
                have HON := Lib.hid on
                have HM := Lib.hid hm
                clear on hm b1 cx HO HR HG HB
                go_wp2_with fail
                go_loopw [9, 12, 48] (fun vg _ s wr' => ∃ (i : Nat) (G' : List Int) (T' : List Bool), s = .int .i64 i ∧ i ≤ m ∧ G'[q]? = some x ∧ GInv (adjT xs day) j (KnV xs day j) G' T' q ((nbL xs day x).take i) ∧ OwnS wr' w.heap.size 27 3 (.slice Ao (grpsN xs day j).length co) (grpsN xs day j) vs ∧
                  wr'.ownsRow w.heap.size 4 1 (.slice (some ⟨s0, 0, none⟩) 9 9) 9 (cellsBl T') ∧ wr'.ownsRow wO.heap.size 3 1 vg G'.length (cells1 G') ∧ wr'.ownsRow wM.heap.size 3 1 (.slice An m cn) m (cells1 (nbL xs day x)) ∧ (∀ k, vg.ownBlock = some k → (Value.slice An m cn).ownBlock ≠ some k) ∧ Below w.heap.size w wr' ∧ wO.heap.size ≤ wr'.heap.size) (fun _ _ s _ => m - (intOf s).toNat)
                case atStart =>
                  refine ⟨0, G, T, rfl, by omega, HX.out, HI.out, HO1.out, HR1.out, HG1.out, HON.out, fun k hk e => ?_, HB1.out, by omega⟩
                  have h1 := (HGL.out k hk).2
                  have h2 := (HON.out.lt k e).1
                  omega
                case round =>
                  obtain ⟨i, G', T', rfl, him, hx', hi, hO, hR, hG, hn', hap, hb, hsr⟩ := hrel
                  have HI' := Lib.hid hi
                  have HO := Lib.hid hO
                  have HR := Lib.hid hR
                  have HG := Lib.hid hG
                  have HNB := Lib.hid hn'
                  have HAP := Lib.hid hap
                  have HB := Lib.hid hb
                  have HX' := Lib.hid hx'
                  obtain ⟨Ag', cg', rfl⟩ := own_form hG
                  have hG9' := hi.len
                  have hT9 := hi.size
                  clear hi hO hR hG hn' hap hb hx' HO1 HR1 HG1 HB1 HI HON
                  by_cases hli : i < m
                  · obtain ⟨p, hp⟩ : ∃ p, (nbL xs day x)[i]? = some p := ⟨(nbL xs day x)[i]'(by have := HM.out; omega), List.getElem?_eq_getElem (by have := HM.out; omega)⟩
                    obtain ⟨hadj, v0, v8⟩ := nbL_get hp
                    obtain ⟨p, rfl⟩ := Int.eq_ofNat_of_zero_le v0
                    have hp9 : p < 9 := by omega
                    have hp9i : (p : Int) < 9 := by omega
                    obtain ⟨gn, o, hAe, hgn, ci⟩ := (Rd.of_own HNB.out).at1 hp
                    subst hAe
                    have HTK := Lib.hid (show (nbL xs day x).take (i + 1) = (nbL xs day x).take i ++ [(p : Int)] by rw [List.take_add_one, hp]; rfl)
                    obtain ⟨cs, fs⟩ := seen_cell HR.out hT9 hp9
                    have HADJ := Lib.hid hadj
                    clear hp hadj
                    cases hh : bAt T' p with
                    | true =>
                      rw [hh] at cs
                      have HI2 := Lib.hid (HI'.out.skip ⟨by omega, by omega⟩ hh)
                      clear hh
                      go_wp2
                      go_roundw
                      case rel => exact ⟨i + 1, G', T', by go_num, by omega, HX'.out, by rw [HTK.out]; exact HI2.out, HO.out, HR.out, HG.out, HNB.out, HAP.out, HB.out, hsr⟩
                      case measure => simp [intOf]; omega
                    | false =>
                      rw [hh] at cs
                      have HI2 := Lib.hid (HI'.out.push (graphT HV.out day) HX'.out HADJ.out ⟨by omega, by omega⟩ hh)
                      have hr1 := seen_set HR.out p
                      have HO1 := Lib.hid (HO.out.only (Only.of_grown hr1.2) (fun q a k h1 h2 h3 => HO.out.apartT HR.out (by decide) (by decide) q a k h1 h2 h3))
                      have HG1 := Lib.hid (HG.out.kept hr1.2 (own_apartO HG.out HR.out (by decide)))
                      have HN1 := Lib.hid (HNB.out.kept hr1.2 (own_apartO HNB.out HR.out (by decide)))
                      have HB1 := Lib.hid (HB.out.grown hr1.2 HB.out.size (fun k hk => (HR.out.lt k hk).1))
                      have hsA : (wr.setCell ⟨s0, p, none⟩ (.bool true)).heap.size = wr.heap.size := by simp
                      have hb2 : Below (wr.setCell ⟨s0, p, none⟩ (.bool true)).heap.size (wr.setCell ⟨s0, p, none⟩ (.bool true)) ((wr.setCell ⟨s0, p, none⟩ (.bool true)).alloc (.cells #[.int .i64 p] 3)) := (Below.refl _ _).alloc (Nat.le_refl _) _
                      have HOa := Lib.hid (HO1.out.below hb2)
                      have HRa := Lib.hid (own_below hr1.1 hb2)
                      have HGa := Lib.hid (own_below HG1.out hb2)
                      have HNa := Lib.hid (own_below HN1.out hb2)
                      have HBa := Lib.hid (HB1.out.trans (hb2.mono HB1.out.size))
                      have HXa : Hid (Rd ((wr.setCell ⟨s0, p, none⟩ (.bool true)).alloc (.cells #[.int .i64 p] 3)) (some ⟨wr.heap.size, 0, none⟩) [.int .i64 p]) := Lib.hid (by
                        have h := rd_new (w := wr.setCell ⟨s0, p, none⟩ (.bool true)) #[.int .i64 p] 3 rfl
                        rw [hsA] at h; exact h)
                      have hbs : wO.heap.size ≤ ((wr.setCell ⟨s0, p, none⟩ (.bool true)).alloc (.cells #[.int .i64 p] 3)).heap.size := by simp; omega
                      have HGL1 := Lib.hid (fun (k : Nat) h => (HGa.out.lt k h).1)
                      have HNL1 := Lib.hid (fun (k : Nat) h => (HNa.out.lt k h).2)
                      clear hh hr1 hb2 HO1 HG1 HN1 HB1 HO HR HG HNB HB hsA
                      go_wp2_with (at_builtin; go_must (refine wpList_app _ rfl (.tmp 60) (.tmp 62) 27 rfl wO.heap.size 3 _ 1 8 Tryd.underlying27 infoInt rfl (by omega) _ _ _ rfl HGa.out _ 1 1 [.int .i64 p] rfl rfl HXa.out (oneCell_int1 p) (by unfold maxLen; omega) (by omega) hbs ?_); intro v6 w6 o6 g6 d6; refine Hid.out ?_)
                      have d6 : v6.ownBlock = (Value.slice Ag' G'.length cg').ownBlock ∨ v6.ownBlock = some ((wr.setCell ⟨s0, p, none⟩ (.bool true)).alloc (.cells #[.int .i64 p] 3)).heap.size := d6
                      have HO6 := Lib.hid (HOa.out.only (Only.of_grown g6) (fun q a k h1 h2 h3 => by have := HOL.out q a k h1 h2; have := HGL1.out k h3; omega))
                      have HR6 := Lib.hid (HRa.out.kept g6 (own_apartO HRa.out HGa.out (by decide)))
                      have HN6 := Lib.hid (HNa.out.kept g6 (.inr fun e => HAP.out _ e.symm rfl))
                      have HB6 := Lib.hid (HBa.out.grown g6 HBa.out.size (fun k hk => by have := HGL1.out k hk; omega))
                      have HG6 : Hid (w6.ownsRow wO.heap.size 3 1 v6 (G' ++ [(p : Int)]).length (cells1 (G' ++ [(p : Int)]))) := Lib.hid (by rw [cells1_append, List.length_append]; exact o6)
                      have HA6 : Hid (∀ k, v6.ownBlock = some k → (Value.slice (some ⟨gn, o, none⟩) m cn).ownBlock ≠ some k) := Lib.hid (fun k hk e => by
                        rcases d6 with e2 | e2
                        · exact HAP.out k (by rw [← e2]; exact hk) e
                        · rw [e2] at hk; injection hk with hk
                          have := HNL1.out k e; omega)
                      have hs6 : wO.heap.size ≤ w6.heap.size := Nat.le_trans hbs g6.size
                      have HX6 : Hid ((G' ++ [(p : Int)])[q]? = some x) := Lib.hid (by rw [List.getElem?_append_left (List.getElem?_eq_some_iff.1 HX'.out).1]; exact HX'.out)
                      clear o6 g6 d6 HOa HRa HGa HNa HBa HXa hbs HGL1 HNL1 HI' HX'
                      refine Lib.hid ?_
                      go_wp2
                      go_roundw
                      case rel => exact ⟨i + 1, G' ++ [(p : Int)], _, by go_num, by omega, HX6.out, by rw [HTK.out]; exact HI2.out, HO6.out, HR6.out, HG6.out, HN6.out, HA6.out, HB6.out, hs6⟩
                      case measure => simp [intOf]; omega
                  · have htk : (nbL xs day x).take i = nbL xs day x := List.take_of_length_le (by have := HM.out; omega)
                    have HI2 := Lib.hid (show GInv (adjT xs day) j (KnV xs day j) G' T' (q + 1) [] from by have h := HI'.out; rw [htk] at h; exact h.next HX'.out (fun y hy => (mem_nbL HV.out).2 hy))
                    have hq' := (List.getElem?_eq_some_iff.1 HX'.out).1
                    clear htk
                    go_wp2
                    go_roundw
                    case rel => exact ⟨q + 1, G', T', by go_num, by omega, HI2.out, HO.out, HR.out, HG.out, HB.out, hsr⟩
                    case measure => simp [intOf]; omega
              · have hqe : G.length ≤ q := by omega
                have HE := Lib.hid (srt_grp HV.out HI.out hqe HKJ.out)
                have HSN := Lib.hid (seen_next HV.out HI.out hqe hlt HKJ.out)
                have hT9 := HI.out.size
                go_wp2_with fail
                refine (sortInt_any wO.heap.size G.length _ G _ HG.out rfl (by omega)).mono ?_
                rintro e w7 ⟨rfl, o7, g7⟩
                have HGb : Hid (w7.ownsRow wO.heap.size 3 1 (.slice Ag G.length cg) (grpV xs day j).length (cells1 (grpV xs day j))) := Lib.hid (by
                  have h : w7.ownsRow wO.heap.size 3 1 (.slice Ag G.length cg) G.length (cells1 (srt G)) := o7
                  rw [HE.out, ← srt_len G, HE.out] at h
                  have e : G.length = (grpV xs day j).length := by rw [← HE.out, srt_len]
                  rw [e]; exact h)
                have HO7 := Lib.hid (HO.out.only (Only.of_grown g7) (fun q a k h1 h2 h3 => by have := HOL.out q a k h1 h2; have := (HG.out.lt k h3).1; omega))
                have HR7 := Lib.hid (HR.out.kept g7 (own_apartO HR.out HG.out (by decide)))
                have HB7 := Lib.hid (HB.out.grown g7 HB.out.size (fun k hk => by have := (HG.out.lt k hk).1; omega))
                have hb2 : Below w7.heap.size w7 (w7.alloc (.cells #[.slice Ag G.length cg] 27)) := (Below.refl _ _).alloc (Nat.le_refl _) _
                have HOa := Lib.hid (HO7.out.below hb2)
                have HRa := Lib.hid (own_below HR7.out hb2)
                have HGa := Lib.hid (own_below HGb.out hb2)
                have HBa := Lib.hid (HB7.out.trans (hb2.mono HB7.out.size))
                have HXa : Hid (Rd (w7.alloc (.cells #[.slice Ag G.length cg] 27)) (some ⟨w7.heap.size, 0, none⟩) [.slice Ag G.length cg]) := Lib.hid (rd_new #[.slice Ag G.length cg] 27 rfl)
                have hbs : w.heap.size ≤ (w7.alloc (.cells #[.slice Ag G.length cg] 27)).heap.size := HBa.out.size
                have HOR := Lib.hid HOa.out.2.1
                clear o7 g7 hb2 HO HR HG HB HO7 HR7 HGb HB7
                go_wp2_with (at_builtin; go_must (refine wpList_app _ rfl (.tmp 67) (.tmp 69) 35 rfl w.heap.size 27 _ 1 24 Tryd.underlying35 info27 rfl (by omega) _ _ _ rfl HOR.out _ 1 1 [.slice Ag G.length cg] rfl rfl HXa.out (oneCell_sl _ _ _) (by unfold maxLen; omega) (by omega) hbs ?_); intro v6 w6 o6 g6 d6; refine Hid.out ?_)
                have d6 : v6.ownBlock = (Value.slice Ao (grpsN xs day j).length co).ownBlock ∨ v6.ownBlock = some (w7.alloc (.cells #[.slice Ag G.length cg] 27)).heap.size := d6
                have HO6 := Lib.hid (HOa.out.snoc (x := grpV xs day j) o6 g6 (fun k hk => by
                  rcases d6 with e2 | e2
                  · exact .inl (by rw [← e2]; exact hk)
                  · rw [e2] at hk; injection hk with hk; exact .inr (by omega)) (own_mono HGa.out hsz) (fun q a k h1 h2 e => by have := HOL.out q a k h1 h2; have := (HGa.out.lt k e).1; omega))
                have HR6 := Lib.hid (HRa.out.kept g6 (own_apartO HRa.out HOR.out (by decide)))
                have HB6 := Lib.hid (HBa.out.grown g6 HBa.out.size (fun k hk => (HOR.out.lt k hk).1))
                obtain ⟨A6, c6, e6⟩ := own_form o6
                subst e6
                clear o6 g6 d6 HOa HRa HGa HBa HXa hbs HOR HI
                refine Lib.hid ?_
                go_wp2
                go_roundw
                case rel => exact ⟨j + 1, _, T, by go_num, by omega, hT9, HSN.out, by rw [HNX.out]; simpa using HO6.out, HR6.out, HB6.out⟩
                case measure => simp [intOf]; omega
        · have hj9 : j = 9 := by omega
          subst hj9
          go_wp2
          go_ret2
          exact ⟨_, vs, rfl, HO.out, HB.out⟩
theorem gp_szG (xs : List R5) (day : Int) : szG (gpV xs day) ≤ 2097152 := by
  unfold szG
  cases h : gpB xs day with
  | true => rw [gp_sum h]; omega
  | false => rw [gp_no h]; simp
end Go.Proofs.YtnaehlglpaadhaaDoor
