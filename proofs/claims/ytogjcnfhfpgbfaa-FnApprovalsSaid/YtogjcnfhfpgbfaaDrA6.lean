/- What the law on approvals draws: what is taken back. -/
import Derived.Test.YtogjcnfhfpgbfaaDrA4
namespace Go.Proofs.Ytogjcnfhfpgbfaa
set_option linter.unusedVariables false
set_option linter.unusedSimpArgs false
open Go.RowKit

set_option maxRecDepth 20000 in
set_option maxHeartbeats 16000000 in
theorem drawTakeBack_any (B : Option Addr) (n c : Nat) (zs : List Int) (w : World) (hn : zs.length = n) (hB : Bytes w B zs) :
    Calls Try.prog 12 #[.slice B n c] w (RetATB w) := by
  subst hn
  have HC0 := Lib.hid (CurB.new hB c 52)
  obtain ⟨u, hu⟩ : ∃ u : Cu, u = ⟨B, c, zs⟩ := ⟨_, rfl⟩
  rw [← hu] at HC0
  clear hu hB
  obtain ⟨p, hp⟩ : ∃ p, p = w.heap.size := ⟨_, rfl⟩
  have HP := Lib.hid hp
  have LS := Lib.hid (fun k w h hk => approvals28_any p k u w h hk)
  have AM := Lib.hid (fun k n c A zs w h hk hz hn hn2 hA hf => among_any p k n c u A zs w h hk hz hn hn2 hA hf)
  have PK := Lib.hid (fun k m w h hk hm hm2 => pick_any p k m u w h hk hm hm2)
  have ON := Lib.hid (fun k m w h hk hm hm2 => one_any p k m u w h hk hm hm2)
  have HC1 : Hid (CurB (w.alloc (.cells #[.slice B zs.length c, .int .i64 0, .int .u64 0] 52)) p u 0) := Lib.hid (by rw [hp]; exact HC0.out)
  have HBW : Hid (w.grownBy (w.alloc (.cells #[.slice B zs.length c, .int .i64 0, .int .u64 0] 52)) (some p)) := Lib.hid (World.grownBy_alloc w _ _)
  have hp1 : p < (w.alloc (.cells #[.slice B zs.length c, .int .i64 0, .int .u64 0] 52)).heap.size := by rw [hp]; simp
  clear HC0 hp
  go_enter Try.func12, Try.ntmps12
  go_wp2_with fail
  rw [← HP.out]
  refine (LS.out 0 _ HC1.out (by omega)).mono ?_
  rintro e w1 ⟨v1, xs, vs, k1, rfl, hL, hx, hk1⟩
  have HL1 := Lib.hid hL
  obtain ⟨A, ca, rfl⟩ := own_form hL.own.row
  have hs1 := hL.sz
  clear hL HC1
  by_cases hl0 : 0 < xs.length
  · have hl0' : ((xs.length : Int) == 0) = false := beq_eq_false_iff_ne.2 (by omega)
    have hl0n : ¬ xs.length = 0 := by omega
    have hl0p : (0 : Int) < (xs.length : Int) := by omega
    go_wp2_with fail
    refine (ON.out k1 10 _ HL1.out.cur (by omega) (by decide) (by decide)).mono ?_
    rintro e w2 ⟨v2, k2, rfl, ⟨b2, rfl⟩, hk2, hc, hg⟩
    have HL2 := Lib.hid (HL1.out.call hp1 hc hg)
    have hs2 := HL2.out.sz
    clear hc hg HL1
    cases b2 with
    | true =>
      go_wp2_with fail
      refine (AM.out k2 3 _ (some ⟨w2.heap.size, 0, none⟩) [0, 1, 50] _ (HL2.out.cur.alloc _) (by omega) rfl (by decide) (by decide) (rd_ints (w := w2) [0, 1, 50] 3) (fun g o q e => by have := HL2.out.cur.lt; injection e with e; injection e with e; omega)).mono ?_
      rintro e w9 ⟨v9, k9, rfl, ⟨z9, -, rfl⟩, hk9, hc, hg⟩
      have HL9 := Lib.hid ((HL2.out.below hp1 ((Below.refl _ _).alloc (Nat.le_refl _) _)).call hp1 hc hg)
      clear hc hg HL2
      go_wp2
      refine bodyPost_ret (v := .tuple #[.slice A xs.length ca, .int .i64 z9, .int .i64 5, .slice (some ⟨w9.heap.size, 0, none⟩) 0 0]) (by simp [results, Try.results12, go_sem]) rfl ?_
      have HLA := HL9.out.below hp1 ((Below.refl _ _).alloc (Nat.le_refl _) (.cells #[] 3))
      exact ⟨_, xs, z9, 5, some ⟨w9.heap.size, 0, none⟩, 0, [], rfl, LstA.of HLA.own hx, .inl rfl, by simp, ⟨by simp, by unfold maxLen; omega⟩, (Below.refl _ _).grown (grown_trans HBW.out HLA.gr) (Nat.le_refl _) (fun k hk => by injection hk with hk; have := HP.out; omega)⟩
    | false =>
      go_wp2_with fail
      refine (PK.out k2 xs.length _ HL2.out.cur (by omega) (by omega) (by omega)).mono ?_
      rintro e w3 ⟨v3, k3, rfl, ⟨r3, rfl, a3, b3⟩, hk3, hc, hg⟩
      have HL3 := Lib.hid (HL2.out.call hp1 hc hg)
      have hs3 := HL3.out.sz
      obtain ⟨m, rfl⟩ : ∃ m : Nat, r3 = m := ⟨r3.toNat, by omega⟩
      have hml : m < xs.length := by omega
      have hml' : (m : Int) < (xs.length : Int) := by omega
      have hm0 : (0 : Int) ≤ (m : Int) := by omega
      have FX := FxA.of HL3.out.own hp1
      obtain ⟨x, hxm⟩ : ∃ x, xs[m]? = some x := ⟨xs[m]'hml, List.getElem?_eq_getElem _⟩
      obtain ⟨g, o, Bx, cBx, Dx, cDx, eA, hrow, hit, hgN⟩ := FX.pick hxm
      subst eA
      obtain ⟨hgl, -, c0, c1, c2, c3, c4, c5, -, -, -, -, -, -⟩ := hrow
      have HT3 : Hid (TRel (w.alloc (.cells #[.slice B zs.length c, .int .i64 0, .int .u64 0] 52)) 41 3 w3.heap.size p w3.heap.size (w3.heap.size + 1) u xs (.slice (some ⟨g, o, none⟩) xs.length ca) vs x (.slice Bx x.items.length cBx) (.slice Dx x.kept.length cDx) [] (.slice none 0 0) k3 (w3.alloc (.cells #[.int .i64 x.id, .string x.client, .int .i64 x.sent, .slice Bx x.items.length cBx, .slice Dx x.kept.length cDx, .int .i64 x.back] 41))) := Lib.hid
        { cur := hc.alloc _
          gr := grown_alloc HL3.out.gr _
          fx := FX.keep (Only.of_below ((Below.refl _ _).alloc (Nat.le_refl _) _))
          box := Blk.new w3 _ _
          it := hit.turn (T := fun b => b = p ∨ w3.heap.size ≤ b) (Only.of_below ((Below.refl _ _).alloc (Nat.le_refl _) _)) (fun b hb _ => hb) (fun b hb _ => hb)
          dy := FX.ds x (List.mem_of_getElem? hxm)
          row := World.ownsRow_nil _ _ _ _
          hN := HL3.out.sz
          hx := Nat.le_refl _
          hl := Nat.lt_succ_self _
          hp := hp1
          los := by simp }
      clear hc hg HL2 HL3 a3 b3 FX hit hxm hgN
      go_wp2_with fail
      clear c0 c1 c2 c3 c4 c5
      go_loopw [9] (fun i wr => ∃ (t : Nat) (y : AR) (cB cD : Nat) (By Dy : Option Addr) (kk : Nat), i = .int .i64 t ∧ t ≤ xs.length ∧ kk ≤ k3 + 2 * t ∧ TRel (w.alloc (.cells #[.slice B zs.length c, .int .i64 0, .int .u64 0] 52)) 41 3 w3.heap.size p w3.heap.size (w3.heap.size + 1) u xs (.slice (some ⟨g, o, none⟩) xs.length ca) vs y (.slice By y.items.length cB) (.slice Dy y.kept.length cD) [] (.slice none 0 0) kk wr) (fun i _ => xs.length - (intOf i).toNat)
      case atStart => exact ⟨0, x, cBx, cDx, Bx, Dx, k3, rfl, by omega, by omega, HT3.out⟩
      case round =>
        obtain ⟨wO, hwO⟩ : ∃ x, x = wr := ⟨wr, rfl⟩
        subst hwO
        obtain ⟨t, y, cB, cD, By, Dy, kk, rfl, ht, hkk, hT⟩ := hrel
        have HT := Lib.hid hT
        clear hT HT3
        by_cases htl : t < xs.length
        · have htl' : (t : Int) < (xs.length : Int) := by omega
          have ht0 : (0 : Int) ≤ (t : Int) := by omega
          obtain ⟨z, hzt⟩ : ∃ z, xs[t]? = some z := ⟨xs[t]'htl, List.getElem?_eq_getElem _⟩
          obtain ⟨g', o', Bz, cBz, Dz, cDz, eA, hrow, hit, hgN⟩ := HT.out.fx.pick hzt
          injection eA with eA
          injection eA with e1 e2
          subst e1; subst e2
          obtain ⟨hgl, -, c0, c1, c2, c3, c4, c5, -, -, -, -, -, -⟩ := hrow
          by_cases hbk : z.back = -1
          · have hbd : (z.back == -1) = true := by simp [hbk]
            clear c0 c1 c2 c3 c4 hit hgN hgl
            go_wp2_with fail
            refine (ON.out kk 2 _ HT.out.cur (by omega) (by decide) (by decide)).mono ?_
            rintro e w5 ⟨v5, k5, rfl, ⟨b5, rfl⟩, hk5, hc, hg⟩
            have HT5 := Lib.hid (HT.out.call hc hg)
            clear hc hg HT c5
            cases b5 with
            | false =>
              go_wp2
              go_roundw
              case rel => exact ⟨t + 1, y, cB, cD, By, Dy, k5, by go_num, by omega, by omega, HT5.out⟩
              case measure => simp [intOf]; omega
            | true =>
              obtain ⟨g', o', Bz, cBz, Dz, cDz, eA, hrow, hit, hgN⟩ := HT5.out.fx.pick hzt
              injection eA with eA
              injection eA with e1 e2
              subst e1; subst e2
              have HIT := Lib.hid hit
              have HDZ := Lib.hid (HT5.out.fx.ds z (List.mem_of_getElem? hzt))
              have HZT := Lib.hid hzt
              clear hit hzt hbk hbd
              obtain ⟨hgl, -, c0, c1, c2, c3, c4, c5, -, -, -, -, -, -⟩ := hrow
              have x0 := HT5.out.box.cell 0 _ rfl
              have x1 := HT5.out.box.cell 1 _ rfl
              have x2 := HT5.out.box.cell 2 _ rfl
              have x3 := HT5.out.box.cell 3 _ rfl
              have x4 := HT5.out.box.cell 4 _ rfl
              have x5 := HT5.out.box.cell 5 _ rfl
              have f0 := HT5.out.box.fr 0 (by simp [row6])
              have f1 := HT5.out.box.fr 1 (by simp [row6])
              have f2 := HT5.out.box.fr 2 (by simp [row6])
              have f3 := HT5.out.box.fr 3 (by simp [row6])
              have f4 := HT5.out.box.fr 4 (by simp [row6])
              have f5 := HT5.out.box.fr 5 (by simp [row6])
              have hbl := HT5.out.box.lt
              have hgx : ¬ g = w3.heap.size := by omega
              have HF := Lib.hid (HT5.out.turn (((((only_set w5 w3.heap.size 0 (.int .i64 z.id)).trans (only_set _ w3.heap.size 1 (.string z.client))).trans (only_set _ w3.heap.size 2 (.int .i64 z.sent))).trans (only_set _ w3.heap.size 3 (.slice Bz z.items.length cBz))).trans (only_set _ w3.heap.size 4 (.slice Dz z.kept.length cDz)) |>.trans (only_set _ w3.heap.size 5 (.int .i64 z.back)))
                ((((((HT5.out.box.set (i := 0) (by simp [row6]) (.int .i64 z.id)).set (i := 1) (by simp [row6]) (.string z.client)).set (i := 2) (by simp [row6]) (.int .i64 z.sent)).set (i := 3) (by simp [row6]) (.slice Bz z.items.length cBz)).set (i := 4) (by simp [row6]) (.slice Dz z.kept.length cDz)).set (i := 5) (by simp [row6]) (.int .i64 z.back)) (y' := z) HIT.out HDZ.out)
              clear HT5
              go_wp2
              go_roundw
              case rel => exact ⟨t + 1, z, cBz, cDz, Bz, Dz, k5, by go_num, by omega, by omega, HF.out⟩
              case measure => simp [intOf]; omega
          · have hbd : (z.back == -1) = false := by simp [hbk]
            clear c0 c1 c2 c3 c4 hit hgN hgl
            go_wp2
            go_roundw
            case rel => exact ⟨t + 1, y, cB, cD, By, Dy, kk, by go_num, by omega, by omega, HT.out⟩
            case measure => simp [intOf]; omega
        · obtain rfl : t = xs.length := by omega
          have HE : Hid (TRel (w.alloc (.cells #[.slice B zs.length c, .int .i64 0, .int .u64 0] 52)) 41 3 w3.heap.size p w3.heap.size (w3.heap.size + 1) u xs (.slice (some ⟨g, o, none⟩) xs.length ca) vs y (.slice By y.items.length cB) (.slice Dy y.kept.length cD) [] (.slice (some ⟨wO.heap.size, 0, none⟩) 0 0) kk (wO.alloc (.cells #[] 3))) := Lib.hid (by
            have h := HT.out.below ((Below.refl _ _).alloc (Nat.le_refl _) (.cells #[] 3))
            exact { h with row := own_empty wO _ 3 1 HT.out.los })
          have hyl : y.items.length ≤ 9 := HT.out.dy.2.1
          clear HT
          have y3 := HE.out.box.cell 3 _ rfl
          go_wp2_with fail
          clear y3
          go_loopw [10, 11] (fun q i wr => ∃ (s : Nat) (ks : List Int) (kq : Nat), i = .int .i64 s ∧ s ≤ y.items.length ∧ ks.length ≤ s ∧ kq ≤ kk + 2 * s ∧ TRel (w.alloc (.cells #[.slice B zs.length c, .int .i64 0, .int .u64 0] 52)) 41 3 w3.heap.size p w3.heap.size (w3.heap.size + 1) u xs (.slice (some ⟨g, o, none⟩) xs.length ca) vs y (.slice By y.items.length cB) (.slice Dy y.kept.length cD) ks q kq wr) (fun _ i _ => y.items.length - (intOf i).toNat)
          case atStart => exact ⟨0, [], kk, rfl, by omega, by simp, by omega, HE.out⟩
          case round =>
            obtain ⟨s, ks, kq, rfl, hs, hks, hkq, hT⟩ := hrel
            obtain ⟨Ak, ck, rfl⟩ := own_form hT.row
            have HT := Lib.hid hT
            clear hT HE
            have y3 := HT.out.box.cell 3 _ rfl
            by_cases hsl : s < y.items.length
            · have hsl' : (s : Int) < (y.items.length : Int) := by omega
              have hs0 : (0 : Int) ≤ (s : Int) := by omega
              go_wp2_with fail
              refine (ON.out kq 3 _ HT.out.cur (by omega) (by decide) (by decide)).mono ?_
              rintro e w6 ⟨v6, k6, rfl, ⟨b6, rfl⟩, hk6, hc, hg⟩
              have HT6 := Lib.hid (HT.out.call hc hg)
              clear hc hg HT y3
              cases b6 with
              | false =>
                go_wp2
                go_roundw
                case rel => exact ⟨s + 1, ks, k6, by go_num, by omega, by omega, by omega, HT6.out⟩
                case measure => simp [intOf]; omega
              | true =>
                obtain ⟨z, hz⟩ : ∃ z, y.items[s]? = some z := ⟨_, List.getElem?_eq_getElem hsl⟩
                obtain ⟨By2, cB2, eB, -, -, rB⟩ := HT6.out.it.rd
                injection eB with eB1 _ eB3
                subst eB1; subst eB3
                obtain ⟨gi, oi, eI, hgi, ci⟩ := rB.at1 hz
                subst eI
                have y3 := HT6.out.box.cell 3 _ rfl
                have BX : Hid (Below w6.heap.size w6 (w6.alloc (.cells #[.int .i64 z] 3))) := Lib.hid ((Below.refl _ _).alloc (Nat.le_refl _) _)
                have HTa := Lib.hid (HT6.out.below BX.out)
                have HROW := Lib.hid HTa.out.row
                have HXa : Hid (Rd (w6.alloc (.cells #[.int .i64 z] 3)) (some ⟨w6.heap.size, 0, none⟩) [.int .i64 z]) := Lib.hid (rd_new #[.int .i64 z] 3 rfl)
                have hbs : w3.heap.size + 1 ≤ (w6.alloc (.cells #[.int .i64 z] 3)).heap.size := HTa.out.los
                clear HT6 hz rB BX
                go_wp2_with (at_builtin; go_must (refine wpList_app _ rfl (.tmp 66) (.tmp 72) 25 rfl (w3.heap.size + 1) 3 _ 1 8 Try.underlying25 infoI rfl (by omega) _ _ _ rfl HROW.out _ 1 1 [.int .i64 z] rfl rfl HXa.out (oneCell_ints [z]) (by unfold maxLen; omega) (by omega) hbs ?_); intro v9 w9 o9 g9 d9; refine Hid.out ?_)
                have HTf := Lib.hid (HTa.out.push o9 g9)
                obtain ⟨A9, c9, rfl⟩ := own_form o9
                clear o9 g9 d9 HTa HROW HXa hbs y3 ci
                refine Lib.hid ?_
                go_wp2
                go_roundw
                case rel => exact ⟨s + 1, ks ++ [z], k6, by go_num, by omega, by simp; omega, by omega, HTf.out⟩
                case measure => simp [intOf]; omega
            · obtain rfl : s = y.items.length := by omega
              go_wp2_with fail
              refine (ON.out kq 20 _ HT.out.cur (by omega) (by decide) (by decide)).mono ?_
              rintro e w6 ⟨v6, k6, rfl, ⟨b6, rfl⟩, hk6, hc, hg⟩
              have HT6 := Lib.hid (HT.out.call hc hg)
              have hk9 : ks.length ≤ 9 := by omega
              clear hc hg HT y3
              cases b6 with
              | false =>
                have q0 := HT6.out.box.cell 0 _ rfl
                have q2 := HT6.out.box.cell 2 _ rfl
                have hqp : w3.heap.size < w6.heap.size := HT6.out.box.lt
                go_wp2_with fail
                go_region_held3 (fun w' => w'.cell? ⟨w3.heap.size, 0, none⟩ = some (.int .i64 y.id) ∧ w'.cell? ⟨w3.heap.size, 2, none⟩ = some (.int .i64 y.sent)) (first | go_keep | exact ⟨KE0, KE2⟩) (first
                  | (go_at_call 27; refine (AM.out k6 4 _ (some ⟨w6.heap.size, 0, none⟩) [0, 1, 10, -1] _ (by first | exact ((HT6.out.below ((Below.refl _ _).alloc (Nat.le_refl _) _)).below (Below.refl _ _).drew).cur | exact (HT6.out.below ((Below.refl _ _).drew.alloc (Nat.le_refl _) _)).cur) (by omega) rfl (by decide) (by decide) (by first | exact rd_ints (w := w6) [0, 1, 10, -1] 3 | exact (rd_ints (w := w6) [0, 1, 10, -1] 3).below (Below.refl _ _).drew) (fun g o q e => by have := HT6.out.cur.lt; injection e with e; injection e with e; omega)).mono ?_; rintro e w10 ⟨v10, k10, rfl, ⟨z10, -, rfl⟩, hk10, hc, hg⟩; have HTZ := Lib.hid (HT6.out.call hc (grown_trans (grown_drew (World.grownBy_alloc w6 (.cells (cells1 [0, 1, 10, -1]).toArray 3) (some p))) hg)); have KE0 : w10.cell? ⟨w3.heap.size, 0, none⟩ = some (.int .i64 y.id) := HTZ.out.box.cell 0 _ rfl; have KE2 : w10.cell? ⟨w3.heap.size, 2, none⟩ = some (.int .i64 y.sent) := HTZ.out.box.cell 2 _ rfl))
                all_goals go_goals
                all_goals (
                  clear hc hg KE0 KE2 q0 q2
                  go_wp2
                  refine bodyPost_ret (v := .tuple #[.slice (some ⟨g, o, none⟩) xs.length ca, .int .i64 y.id, .int .i64 (IntKind.i64.wrap (y.sent + z10)), .slice Ak ks.length ck]) (by simp [results, Try.results12, go_sem]) rfl ?_
                  exact ⟨_, xs, _, _, _, _, ks, by first | rfl | rw [hkl], LstA.of2 HTZ.out.fx hx, Rd.of_own HTZ.out.row, by omega, by have := own_capS HTZ.out.row; omega, (Below.refl _ _).grown (grown_trans HBW.out HTZ.out.gr) (Nat.le_refl _) (fun k hk => by injection hk with hk; have := HP.out; omega)⟩)
              | true =>
                go_wp2_with fail
                refine (AM.out k6 2 _ (some ⟨w6.heap.size, 0, none⟩) [0, 10] _ (HT6.out.cur.alloc _) (by omega) rfl (by decide) (by decide) (rd_ints (w := w6) [0, 10] 3) (fun g o q e => by have := HT6.out.cur.lt; injection e with e; injection e with e; omega)).mono ?_
                rintro e w7 ⟨v7, k7, rfl, ⟨z, -, rfl⟩, hk7, hc, hg⟩
                have HT7 := Lib.hid ((HT6.out.below ((Below.refl _ _).alloc (Nat.le_refl _) _)).call hc hg)
                clear hc hg HT6
                have BX : Hid (Below w7.heap.size w7 (w7.alloc (.cells #[.int .i64 z] 3))) := Lib.hid ((Below.refl _ _).alloc (Nat.le_refl _) _)
                have HTa := Lib.hid (HT7.out.below BX.out)
                have HROW := Lib.hid HTa.out.row
                have HXa : Hid (Rd (w7.alloc (.cells #[.int .i64 z] 3)) (some ⟨w7.heap.size, 0, none⟩) [.int .i64 z]) := Lib.hid (rd_new #[.int .i64 z] 3 rfl)
                have hbs : w3.heap.size + 1 ≤ (w7.alloc (.cells #[.int .i64 z] 3)).heap.size := HTa.out.los
                clear HT7 BX
                go_wp2_with (at_builtin; go_must (refine wpList_app _ rfl (.tmp 76) (.tmp 80) 25 rfl (w3.heap.size + 1) 3 _ 1 8 Try.underlying25 infoI rfl (by omega) _ _ _ rfl HROW.out _ 1 1 [.int .i64 z] rfl rfl HXa.out (oneCell_ints [z]) (by unfold maxLen; omega) (by omega) hbs ?_); intro v9 w9 o9 g9 d9; refine Hid.out ?_)
                have HT9 := Lib.hid (HTa.out.push o9 g9)
                obtain ⟨A9, c9, rfl⟩ := own_form o9
                have hkz : (ks ++ [z]).length ≤ 10 := by simp; omega
                have hkl : (ks ++ [z]).length = ks.length + 1 := by simp
                clear o9 g9 d9 HTa HROW HXa hbs
                refine Lib.hid ?_
                have q0 := HT9.out.box.cell 0 _ rfl
                have q2 := HT9.out.box.cell 2 _ rfl
                have hqp : w3.heap.size < w9.heap.size := HT9.out.box.lt
                go_wp2_with fail
                go_region_held3 (fun w' => w'.cell? ⟨w3.heap.size, 0, none⟩ = some (.int .i64 y.id) ∧ w'.cell? ⟨w3.heap.size, 2, none⟩ = some (.int .i64 y.sent)) (first | go_keep | exact ⟨KE0, KE2⟩) (first
                  | (go_at_call 27; refine (AM.out k7 4 _ (some ⟨w9.heap.size, 0, none⟩) [0, 1, 10, -1] _ (by first | exact ((HT9.out.below ((Below.refl _ _).alloc (Nat.le_refl _) _)).below (Below.refl _ _).drew).cur | exact (HT9.out.below ((Below.refl _ _).drew.alloc (Nat.le_refl _) _)).cur) (by omega) rfl (by decide) (by decide) (by first | exact rd_ints (w := w9) [0, 1, 10, -1] 3 | exact (rd_ints (w := w9) [0, 1, 10, -1] 3).below (Below.refl _ _).drew) (fun g o q e => by have := HT9.out.cur.lt; injection e with e; injection e with e; omega)).mono ?_; rintro e w10 ⟨v10, k10, rfl, ⟨z10, -, rfl⟩, hk10, hc, hg⟩; have HTZ := Lib.hid (HT9.out.call hc (grown_trans (grown_drew (World.grownBy_alloc w9 (.cells (cells1 [0, 1, 10, -1]).toArray 3) (some p))) hg)); have KE0 : w10.cell? ⟨w3.heap.size, 0, none⟩ = some (.int .i64 y.id) := HTZ.out.box.cell 0 _ rfl; have KE2 : w10.cell? ⟨w3.heap.size, 2, none⟩ = some (.int .i64 y.sent) := HTZ.out.box.cell 2 _ rfl))
                all_goals go_goals
                all_goals (
                  clear hc hg KE0 KE2 q0 q2
                  go_wp2
                  refine bodyPost_ret (v := .tuple #[.slice (some ⟨g, o, none⟩) xs.length ca, .int .i64 y.id, .int .i64 (IntKind.i64.wrap (y.sent + z10)), .slice A9 (ks.length + 1) c9]) (by simp [results, Try.results12, go_sem]) rfl ?_
                  exact ⟨_, xs, _, _, _, _, (ks ++ [z]), by first | rfl | rw [hkl], LstA.of2 HTZ.out.fx hx, by have h := HTZ.out.row; rw [hkl] at h; exact Rd.of_own h, hkz, by have h := HTZ.out.row; rw [hkl] at h ⊢; exact own_capS h, (Below.refl _ _).grown (grown_trans HBW.out HTZ.out.gr) (Nat.le_refl _) (fun k hk => by injection hk with hk; have := HP.out; omega)⟩)
  · have hl0' : ((xs.length : Int) == 0) = true := beq_iff_eq.2 (by omega)
    have hl0n : xs.length = 0 := by omega
    go_wp2_with fail
    refine (AM.out k1 3 _ (some ⟨w1.heap.size, 0, none⟩) [0, 1, 50] _ (HL1.out.cur.alloc _) (by omega) rfl (by decide) (by decide) (rd_ints (w := w1) [0, 1, 50] 3) (fun g o q e => by have := HL1.out.cur.lt; injection e with e; injection e with e; omega)).mono ?_
    rintro e w9 ⟨v9, k9, rfl, ⟨z9, -, rfl⟩, hk9, hc, hg⟩
    have HL9 := Lib.hid ((HL1.out.below hp1 ((Below.refl _ _).alloc (Nat.le_refl _) _)).call hp1 hc hg)
    clear hc hg HL1
    go_wp2
    refine bodyPost_ret (v := .tuple #[.slice A xs.length ca, .int .i64 z9, .int .i64 5, .slice (some ⟨w9.heap.size, 0, none⟩) 0 0]) (by simp [results, Try.results12, go_sem, hl0n]) rfl ?_
    have HLA := HL9.out.below hp1 ((Below.refl _ _).alloc (Nat.le_refl _) (.cells #[] 3))
    exact ⟨_, xs, z9, 5, some ⟨w9.heap.size, 0, none⟩, 0, [], rfl, LstA.of HLA.own hx, .inl rfl, by simp, ⟨by simp, by unfold maxLen; omega⟩, (Below.refl _ _).grown (grown_trans HBW.out HLA.gr) (Nat.le_refl _) (fun k hk => by injection hk with hk; have := HP.out; omega)⟩
end Go.Proofs.Ytogjcnfhfpgbfaa
