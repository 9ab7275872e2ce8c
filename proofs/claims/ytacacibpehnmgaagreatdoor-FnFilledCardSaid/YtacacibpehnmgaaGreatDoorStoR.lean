/- Stock book: StraightenBook of the reference. -/
import Derived.Test.YtacacibpehnmgaaGreatDoorStoQ
namespace Go.Proofs.YtacacibpehnmgaaGreatDoor
set_option linter.unusedVariables false
set_option linter.unusedSimpArgs false
open Go.RowKit

/-- a is the first index from j on at which a stamp has room, or -1. -/
def FFp (ys : List BR) (z : Int) (j : Nat) (a : Int) : Prop :=
  (a = -1 ∧ ∀ (i : Nat) (x : BR), j ≤ i → ys[i]? = some x → roomB x.ws z = false) ∨
  (∃ (m : Nat) (x : BR), a = m ∧ j ≤ m ∧ ys[m]? = some x ∧ roomB x.ws z = true ∧ ∀ (i : Nat) (y : BR), j ≤ i → i < m → ys[i]? = some y → roomB y.ws z = false)
theorem FFp.start {ys : List BR} {z : Int} {j : Nat} (h : ys.length ≤ j) : FFp ys z j (-1) := .inl ⟨rfl, fun i x hi hx => by have := (List.getElem?_eq_some_iff.1 hx).1; omega⟩
theorem FFp.yes {ys : List BR} {z : Int} {j : Nat} {x : BR} (hx : ys[j]? = some x) (hr : roomB x.ws z = true) : FFp ys z j (j : Int) := .inr ⟨j, x, rfl, Nat.le_refl _, hx, hr, fun i y h1 h2 => by omega⟩
theorem FFp.no {ys : List BR} {z : Int} {j : Nat} {x : BR} {a : Int} (h : FFp ys z (j + 1) a) (hx : ys[j]? = some x) (hr : roomB x.ws z = false) : FFp ys z j a := by
  rcases h with ⟨rfl, h⟩ | ⟨m, y, rfl, h1, h2, h3, h4⟩
  · refine .inl ⟨rfl, fun i y hi hy => ?_⟩
    rcases Nat.lt_or_eq_of_le hi with h' | h'
    · exact h i y h' hy
    · subst h'; rw [hx] at hy; injection hy with hy; subst hy; exact hr
  · refine .inr ⟨m, y, rfl, by omega, h2, h3, fun i y' hi hm hy => ?_⟩
    rcases Nat.lt_or_eq_of_le hi with h' | h'
    · exact h4 i y' h' hm hy
    · subst h'; rw [hx] at hy; injection hy with hy; subst hy; exact hr
theorem FFp.done {ys : List BR} {z a : Int} (h : FFp ys z 0 a) : a = ffV ys z := by
  rcases h with ⟨rfl, h⟩ | ⟨m, y, rfl, -, h2, h3, h4⟩
  · exact (idxV_miss (fun j y hy => h j y (Nat.zero_le _) hy)).symm
  · exact (idxV_hit (fun j y hj hy => h4 j y (Nat.zero_le _) hj hy) h2 h3).symm
theorem FFp.bd {ys : List BR} {z a : Int} {j : Nat} (h : FFp ys z j a) : -1 ≤ a ∧ a < ys.length ∨ ys.length = 0 ∧ a = -1 := by
  rcases h with ⟨rfl, h⟩ | ⟨m, y, rfl, -, h2, h3, h4⟩
  · omega
  · have := (List.getElem?_eq_some_iff.1 h2).1; omega

/-- What the loops of StraightenBook keep. -/
def SbRel (W : World) (E EI : Nat) (xs : List BR) (us : List Int) (v : Value) (wr : World) : Prop :=
  ∃ now vs, sgS (emptyV xs) us = some now ∧ OwnB wr W.heap.size E EI v now vs ∧ Below W.heap.size W wr

theorem sb_no {xs : List BR} (h : bookB xs = false) : sbB xs = false ∧ sbV xs = [] := by simp [sbB, sbV, h]
theorem sb_none {xs : List BR} (h : sbO xs = none) : sbB xs = false ∧ sbV xs = [] := by simp [sbB, sbV, h]
theorem sb_some {xs now : List BR} (hv : bookB xs = true) (h : sbO xs = some now) : sbB xs = true ∧ sbV xs = now := by simp [sbB, sbV, h, hv]
theorem emptyV_take {xs : List BR} {k : Nat} {x : BR} (h : xs[k]? = some x) : (emptyV xs).take (k + 1) = (emptyV xs).take k ++ [⟨x.id, []⟩] := by
  rw [List.take_add_one, emptyV_get h]; rfl

set_option maxRecDepth 100000 in
set_option maxHeartbeats 8000000 in
theorem specStraightenBook_any (A : Option Addr) (n c : Nat) (xs : List BR) (w : World) (hn : xs.length = n) (hA : RdB w A xs) (h20 : n ≤ 1048576) (hw : ∀ x ∈ xs, x.ws.length ≤ 1048576) :
    Calls Tryz.prog 15 #[.slice A n c] w (RetBB 34 3 (sbV xs) (sbB xs) w) := by
  have C0 := Lib.hid (fun w h => l27Good_any A n c xs w hn h (by omega) (hw1 hw))
  have HA := Lib.hid hA
  cases hv : bookB xs with
  | false =>
    rw [hv] at C0
    rw [(sb_no hv).1, (sb_no hv).2]
    clear hv hn hw hA
    go_enter Tryz.func15, Tryz.ntmps15
    go_wp2_with fail
    refine (C0.out _ HA.out).mono ?_
    rintro e w1 ⟨rfl, b1⟩
    have hs1 := b1.size
    go_wp2
    go_ret2
    exact ⟨_, [], rfl, ownB_empty _ _ _ _ hs1, b1.alloc hs1 _⟩
  | true =>
    rw [hv] at C0
    have HBV := Lib.hid hv
    have HR := Lib.hid (bookB_rows hv)
    have HN := Lib.hid hn
    have hl8 : n ≤ 8 := by have := (bookB_yes hv).2; omega
    clear hv hn hw hA
    go_enter Tryz.func15, Tryz.ntmps15
    go_wp2_with fail
    refine (C0.out _ HA.out).mono ?_
    rintro e w1 ⟨rfl, b1⟩
    have hs1 := b1.size
    have H0 := Lib.hid (show OwnB (w1.alloc (.cells #[] 34)) w.heap.size 34 3 (.slice (some ⟨w1.heap.size, 0, none⟩) 0 0) ((emptyV xs).take 0) [] from ownB_empty _ _ _ _ hs1)
    have HB0 := Lib.hid (b1.alloc hs1 (.cells #[] 34))
    clear b1
    go_wp2_with fail
    go_loopw [4, 5] (fun v j wr => ∃ (k : Nat) (vs : List Value), k ≤ n ∧ j = .int .i64 k ∧ OwnB wr w.heap.size 34 3 v ((emptyV xs).take k) vs ∧ Below w.heap.size w wr) (fun _ j _ => n - (intOf j).toNat)
    case atStart => exact ⟨0, [], Nat.zero_le _, rfl, H0.out, HB0.out⟩
    case round =>
      obtain ⟨k, vs, hk, rfl, ho, hb⟩ := hrel
      have HO := Lib.hid ho
      have hs := hb.size
      by_cases hlt : k < n
      · obtain ⟨x, hxk⟩ : ∃ x, xs[k]? = some x := ⟨xs[k]'(by have := HN.out; omega), List.getElem?_eq_getElem _⟩
        obtain ⟨g, o, B, cc, rfl, hg, c0, c1, -, -, -⟩ := (HA.out.below hb).at hxk
        have HT := Lib.hid (emptyV_take hxk)
        have HYL := Lib.hid (show ((emptyV xs).take k).length = k by rw [List.length_take, emptyV_len]; have := HN.out; omega)
        have hrow := fun q => own_below ho.2.1 ((Below.refl wr.heap.size wr).alloc (Nat.le_refl _) q)
        rw [HYL.out] at hrow
        have HROW := Lib.hid hrow
        clear hrow ho hxk c1
        go_wp2_with (at_builtin; go_must (refine wpList_app _ rfl (.tmp 22) (.tmp 29) 24 rfl w.heap.size 34 _ 2 32 Tryz.underlying24 info34 rfl (by omega) _ k _ rfl (HROW.out _) _ 1 1 [.int .i64 x.id, .slice none 0 0] rfl rfl (rd_new #[.int .i64 x.id, .slice none 0 0] 34 (by simp)) (by intro u hu; simp at hu; rcases hu with rfl | rfl <;> rfl) (by unfold maxLen; omega) (by omega) (by simp; omega) ?_); intro v' w' o' g' d')
        have HF := Lib.hid (HO.out.snoc (x := ⟨x.id, []⟩) (u := .slice none 0 0) ((Below.refl wr.heap.size wr).alloc (Nat.le_refl _) _) hs (World.ownsRow_nil _ _ _ _) (by rw [HYL.out]; exact o') g' d')
        have HB := Lib.hid ((hb.alloc hs _).trans (below_app (HROW.out _) g' (by simp; omega) (Nat.le_refl _)))
        clear o' g' d' HROW
        go_roundw
        case rel => exact ⟨k + 1, _, by omega, by go_num, by rw [HT.out]; exact HF.out, HB.out⟩
        case measure => simp [intOf]; omega
      · have hd : decide (k < n) = false := by simpa using hlt
        have hkn : k = n := by omega
        have HREL : Hid (SbRel w 34 3 xs (preV xs 0 0 0) u4 wr) := by
          refine Lib.hid ⟨emptyV xs, vs, by rw [preV_zero]; rfl, ?_, hb⟩
          have h1 := HO.out
          rw [List.take_of_length_le (by rw [emptyV_len, HN.out]; omega)] at h1
          exact h1
        clear ho hkn
        go_wp2_with fail
        go_loopw [4, 6, 7, 8, 9, 10] (fun v q _ _ _ _ wr => ∃ (d : Nat), d ≤ 51 ∧ q = .int .i64 (60 - (d : Int)) ∧ SbRel w 34 3 xs (preV xs d 0 0) v wr) (fun _ q _ _ _ _ _ => (intOf q + 10).toNat)
        case atStart => exact ⟨0, by omega, rfl, HREL.out⟩
        case round =>
          obtain ⟨d, hd51, rfl, hrel⟩ := hrel
          have HRL := Lib.hid hrel
          clear hrel
          by_cases hd1 : d < 51
          · have hd10 : decide ((10 : Int) ≤ 60 - (d : Int)) = true := by simp; omega
            go_wp2_with fail
            go_loopw [4, 7, 8, 9, 10] (fun v p _ _ _ wr => ∃ (i : Nat), i ≤ n ∧ p = .int .i64 i ∧ SbRel w 34 3 xs (preV xs d i 0) v wr) (fun _ p _ _ _ _ => n - (intOf p).toNat)
            case atStart => exact ⟨0, by omega, rfl, HRL.out⟩
            case round =>
              obtain ⟨i, hin, rfl, hrel⟩ := hrel
              have HRL2 := Lib.hid hrel
              clear hrel
              by_cases hil : i < n
              · obtain ⟨x, hxi⟩ : ∃ x, xs[i]? = some x := ⟨xs[i]'(by have := HN.out; omega), List.getElem?_eq_getElem _⟩
                have HX := Lib.hid hxi
                have hid1 : decide (i < n) = true := by simpa using hil
                have hlx := (rowB_yes (HR.out x (List.mem_of_getElem? hxi))).2.1
                clear hxi
                go_wp2_with fail
                go_loopw [4, 8, 9, 10] (fun v p _ _ wr => ∃ (k : Nat), k ≤ x.ws.length ∧ p = .int .i64 k ∧ SbRel w 34 3 xs (preV xs d i k) v wr) (fun _ p _ _ _ => x.ws.length - (intOf p).toNat)
                case atStart => exact ⟨0, by omega, rfl, HRL2.out⟩
                case round =>
                  obtain ⟨k, hkx, rfl, hrel⟩ := hrel
                  obtain ⟨now, vs, hnow, ow, hb⟩ := hrel
                  have hs := hb.size
                  have HNOW := Lib.hid hnow
                  have HOW := Lib.hid ow
                  obtain ⟨g, o, B, cc, rfl, hg, c0, c1, -, -, hrd⟩ := (HA.out.below hb).at HX.out
                  obtain ⟨hrn, hnl⟩ := sgS_inv _ (emptyV_rows xs) hnow
                  rw [emptyV_len] at hnl
                  have HRN := Lib.hid hrn
                  have HNL := Lib.hid hnl
                  clear hnow ow c0 hrn
                  by_cases hlt : k < x.ws.length
                  · obtain ⟨z, hzk⟩ : ∃ z, x.ws[k]? = some z := ⟨x.ws[k], List.getElem?_eq_getElem hlt⟩
                    have hkd : decide (k < x.ws.length) = true := by simpa using hlt
                    obtain ⟨gb, ob, rfl, hgb, e0⟩ := hrd.at1 hzk
                    have HST := Lib.hid (preV_step (d := d) HX.out hzk)
                    have HZ := Lib.hid hzk
                    clear hzk hrd
                    by_cases hz : z = 60 - (d : Int)
                    · have hzd : isD d z = true := by simp [isD, hz]
                      have HPX := Lib.hid (preV_prefix hd1 HX.out HZ.out hzd)
                      rw [hzd, if_pos rfl] at HST
                      clear hzd
                      have hdz : (z == 60 - (d : Int)) = true := by simp [hz]
                      have hdz2 : (z != 60 - (d : Int)) = false := by simp [hz]
                      have HZD := Lib.hid hz
                      obtain ⟨Av, cv, rfl⟩ := own_form HOW.out.2.1
                      have hn8 : now.length ≤ 8 := by have := HN.out; omega
                      clear hz hnl
                      go_wp2_with fail
                      go_loopw [9, 10] (fun a p w2 => ∃ (j : Nat) (aa : Int), j ≤ now.length ∧ p = .int .i64 ((j : Int) - 1) ∧ a = .int .i64 aa ∧ FFp now (60 - (d : Int)) j aa ∧ Below wr.heap.size wr w2) (fun _ p _ => (intOf p + 1).toNat)
                      case atStart => exact ⟨now.length, -1, Nat.le_refl _, rfl, rfl, FFp.start (Nat.le_refl _), Below.refl _ _⟩
                      case round =>
                        obtain ⟨j, aa, hj, rfl, rfl, hff, hb2⟩ := hrel
                        have HFF := Lib.hid hff
                        have hbd := hff.bd
                        clear hff
                        by_cases hj0 : 0 < j
                        · obtain ⟨p, rfl⟩ : ∃ p, j = p + 1 := ⟨j - 1, by omega⟩
                          rw [show ((p + 1 : Nat) : Int) - 1 = (p : Int) by omega]
                          obtain ⟨y, hy⟩ : ∃ y, now[p]? = some y := ⟨now[p], List.getElem?_eq_getElem (by omega)⟩
                          obtain ⟨gv, ov, Bv, cv', hAv, hgv, d0, d1, -, -, hrdv⟩ := ((HOW.out.below hb2).rd2).at hy
                          subst hAv
                          have hly := (rowB_yes (HRN.out y (List.mem_of_getElem? hy))).2.1
                          have HY := Lib.hid hy
                          have C6 := Lib.hid (fun w h => l27Room_any Bv y.ws.length cv' y.ws (60 - (d : Int)) w rfl h (by omega))
                          have HRV := Lib.hid hrdv
                          have hp1 : (p : Int) < (now.length : Int) := by omega
                          have hp0 : (0 : Int) ≤ (p : Int) := by omega
                          clear hy hrdv d0
                          cases hr : roomB y.ws (60 - (d : Int)) with
                          | true =>
                            rw [hr] at C6
                            have HFY := Lib.hid (FFp.yes HY.out hr)
                            clear hr
                            go_wp2_with fail
                            refine (C6.out _ HRV.out).mono ?_
                            rintro e w3 ⟨rfl, b3⟩
                            go_wp2
                            go_roundw
                            case rel => exact ⟨p, p, by omega, by go_num, rfl, HFY.out, hb2.trans (b3.mono hb2.size)⟩
                            case measure => simp [intOf]
                          | false =>
                            rw [hr] at C6
                            have HFN := Lib.hid (HFF.out.no HY.out hr)
                            clear hr
                            go_wp2_with fail
                            refine (C6.out _ HRV.out).mono ?_
                            rintro e w3 ⟨rfl, b3⟩
                            go_wp2
                            go_roundw
                            case rel => exact ⟨p, aa, by omega, by go_num, rfl, HFN.out, hb2.trans (b3.mono hb2.size)⟩
                            case measure => simp [intOf]
                        · obtain rfl : j = 0 := by omega
                          have HAA := Lib.hid HFF.out.done
                          have HB2 := Lib.hid hb2
                          have hs2 := hb2.size
                          rw [show ((0 : Nat) : Int) - 1 = -1 by omega]
                          by_cases ha : aa < 0
                          · have hda : decide (aa < 0) = true := by simpa using ha
                            have HSN : Hid (sbO xs = none) := by
                              refine Lib.hid ?_
                              obtain ⟨rest, hrest⟩ := HPX.out
                              rw [sbO, hrest]
                              exact sgS_none HNOW.out (by rw [HZD.out, ← HAA.out]; exact ha)
                            clear hb2
                            go_wp2
                            rw [(sb_none HSN.out).1, (sb_none HSN.out).2]
                            go_ret2
                            exact ⟨_, [], rfl, ownB_empty _ _ _ _ (Nat.le_trans hs hs2), (hb.trans (HB2.out.mono hs)).alloc (Nat.le_trans hs hs2) _⟩
                          · have hda : decide (aa < 0) = false := by simpa using ha
                            obtain ⟨m, y, hm, hml, hy, hry⟩ := ff_at (ys := now) (z := 60 - (d : Int)) (by have := HAA.out; omega)
                            obtain rfl : aa = (m : Int) := by rw [HAA.out, hm]
                            obtain ⟨gv, ov, Bv, cv', hAv, hgv, d0, d1, -, -, hrdv⟩ := ((HOW.out.below hb2).rd2).at hy
                            subst hAv
                            have hly := (rowB_yes (HRN.out y (List.mem_of_getElem? hy))).2.1
                            have HRV := Lib.hid hrdv
                            have HNW := Lib.hid (HOW.out.below hb2).rd2
                            have HNX : Hid (sgS (emptyV xs) (preV xs d i (k + 1)) = some (withV now m (y.ws ++ [60 - (d : Int)]))) := by
                              refine Lib.hid ?_
                              rw [HST.out, sgS_snoc HNOW.out, HZD.out, hm, if_neg (by omega), atB_at hy]
                            have hm1 : (m : Int) < (now.length : Int) := by omega
                            have hm0 : (0 : Int) ≤ (m : Int) := by omega
                            clear hm hy hry hrdv d0 hb2
                            go_wp2_with fail
                            refine (l1Own_any Bv y.ws.length cv' y.ws _ rfl HRV.out (by omega)).mono ?_
                            rintro e w4 ⟨u, rfl, o4, b4⟩
                            have hs4 := b4.size
                            have HO4 := Lib.hid (fun q => own_below o4 ((Below.refl w4.heap.size w4).alloc (Nat.le_refl _) q))
                            have HB4 := Lib.hid b4
                            clear o4 b4
                            go_wp2_with (at_builtin; go_must (refine wpList_app _ rfl (.tmp 86) (.tmp 88) 25 rfl _ 3 _ 1 8 Tryz.underlying25 infoI rfl (by omega) _ _ _ rfl (HO4.out _) _ 1 1 [.int .i64 (60 - (d : Int))] rfl rfl (rd_new #[.int .i64 (60 - (d : Int))] 3 (by simp)) (oneCell_ints [60 - (d : Int)]) (by unfold maxLen; omega) (by omega) (by simp; omega) ?_); intro v' w' o' g' d')
                            obtain ⟨A5, c5, rfl⟩ := own_form o'
                            rw [cells1_snoc] at o'
                            have hB5 := (HB4.out.alloc hs4 (.cells #[.int .i64 (60 - (d : Int))] 3)).grown g' (by simp; omega) (fun q hq => ((HO4.out (.cells #[.int .i64 (60 - (d : Int))] 3)).lt q hq).1)
                            have B5 := Lib.hid hB5
                            have hs5 := hB5.size
                            have RO5 := Lib.hid (Rd.of_own o')
                            clear o' g' d' hB5
                            go_wp2_with fail
                            refine (l27With_any (some ⟨gv, ov, none⟩) _ _ now m A5 (y.ws.length + 1) c5 (y.ws ++ [60 - (d : Int)]) _ rfl (HNW.out.below B5.out) (by omega) (rowsB_w HRN.out) (by simp) RO5.out (by omega)).mono ?_
                            rintro e w6 ⟨v6, vs6, rfl, o6, b6⟩
                            have hsA : w.heap.size ≤ w'.heap.size := by omega
                            have HF : Hid (SbRel w 34 3 xs (preV xs d i (k + 1)) v6 w6) := Lib.hid ⟨_, vs6, HNX.out, o6.mono hsA, (hb.trans ((HB2.out.trans (B5.out.mono hs2)).mono hs)).trans (b6.mono hsA)⟩
                            clear o6 b6
                            go_wp2
                            go_roundw
                            case rel => exact ⟨k + 1, by omega, by go_num, HF.out⟩
                            case measure => simp [intOf]; omega
                    · have hzd : isD d z = false := by simp [isD, hz]
                      rw [hzd, if_neg (by simp), List.append_nil] at HST
                      clear hzd hnl
                      have hdz : (z == 60 - (d : Int)) = false := by simp [hz]
                      have hdz2 : (z != 60 - (d : Int)) = true := by simp [hz]
                      have HF : Hid (SbRel w 34 3 xs (preV xs d i (k + 1)) u4 wr) := Lib.hid ⟨now, vs, by rw [HST.out]; exact HNOW.out, HOW.out, hb⟩
                      clear hz
                      go_wp2
                      go_roundw
                      case rel => exact ⟨k + 1, by omega, by go_num, HF.out⟩
                      case measure => simp [intOf]; omega
                  · have hkk : k = x.ws.length := by omega
                    have HF : Hid (SbRel w 34 3 xs (preV xs d (i + 1) 0) u4 wr) := Lib.hid ⟨now, vs, by rw [← preV_row HX.out, ← hkk]; exact HNOW.out, HOW.out, hb⟩
                    have hd4 : decide (k < x.ws.length) = false := by simpa using hlt
                    clear hkk hnl hrd
                    go_wp2
                    go_roundw
                    case rel => exact ⟨i + 1, by omega, by go_num, HF.out⟩
                    case measure => simp [intOf]; omega
              · have hd3 : decide (i < n) = false := by simpa using hil
                have HQ := Lib.hid (show preV xs d i 0 = preV xs (d + 1) 0 0 by rw [← preV_all]; congr 1; have := HN.out; omega)
                go_wp2
                go_roundw
                case rel => exact ⟨d + 1, by omega, by go_num, by rw [← HQ.out]; exact HRL2.out⟩
                case measure => simp [intOf]; omega
          · obtain rfl : d = 51 := by omega
            obtain ⟨now, vs9, hnow, ow, hb9⟩ := HRL.out
            rw [preV_end] at hnow
            have HF := Lib.hid (sb_some HBV.out hnow)
            have HOW := Lib.hid ow
            clear ow hnow
            go_wp2
            rw [HF.out.1, HF.out.2]
            obtain ⟨A9, c9, e9⟩ := own_form HOW.out.2.1
            go_ret2
            exact ⟨_, vs9, rfl, HOW.out, hb9⟩
end Go.Proofs.YtacacibpehnmgaaGreatDoor
