/- What the cursor draws of approvals: a list, a day. -/
import Derived.Test.YtehohkdipfphmaaDoorDrA2
import Derived.Test.YtehohkdipfphmaaDoorAppK
import Derived.Test.YtehohkdipfphmaaDoorAppQ
namespace Go.Proofs.YtehohkdipfphmaaDoor
set_option linter.unusedVariables false
set_option linter.unusedSimpArgs false
open Go.RowKit

theorem cellsA_one : ∀ {xs : List AR} {vs : List Value}, (∀ v ∈ vs, v.oneCell' = true) → ∀ u ∈ cellsA xs vs, u.oneCell' = true
  | [], vs, _, u, hu => by simp [cellsA] at hu
  | _ :: _, [], _, u, hu => by simp [cellsA] at hu
  | _ :: _, [_], _, u, hu => by simp [cellsA] at hu
  | x :: xs, a :: b :: vs, h, u, hu => by
    simp only [cellsA, List.mem_cons] at hu
    rcases hu with rfl | rfl | rfl | rfl | rfl | rfl | hu
    · rfl
    · rfl
    · rfl
    · exact h _ (List.mem_cons_self ..)
    · exact h _ (List.mem_cons_of_mem _ (List.mem_cons_self ..))
    · rfl
    · exact cellsA_one (fun v hv => h v (List.mem_cons_of_mem _ (List.mem_cons_of_mem _ hv))) u hu
theorem InA.one {w : World} {lo E p : Nat} {v : Value} {xs : List AR} {vs : List Value} (h : InA w lo E p v xs vs) : ∀ u ∈ cellsA xs vs, u.oneCell' = true := by
  refine cellsA_one fun u hu => ?_
  obtain ⟨j, hj⟩ := List.mem_iff_getElem?.1 hu
  have hjl : j < (innA xs).length := by have := (List.getElem?_eq_some_iff.1 hj).1; rw [innA_len, ← h.len]; exact this
  obtain ⟨A, c, rfl, -⟩ := (h.inn j _ u (List.getElem?_eq_getElem hjl) hj).rd
  rfl
theorem rd_at {w : World} {b b' : Nat} {cs : List Value} (e : b = b') (h : Rd w (some ⟨b, 0, none⟩) cs) : Rd w (some ⟨b', 0, none⟩) cs := by subst e; exact h
/-- The call returns approvals, thirteen at most; the cursor is d bytes further at most. -/
def RetCA (E p : Nat) (u : Cu) (k d : Nat) (W : World) : Ending → World → Prop := fun e w' => ∃ v xs vs k', e = .returned v ∧ ARel W E p u xs v vs k' w' ∧ xs.length ≤ 13 ∧ k' ≤ k + d

set_option maxRecDepth 20000 in
set_option maxHeartbeats 8000000 in
theorem approvals28_any (p k : Nat) (u : Cu) (w : World) (h : CurB w p u k) (hk : k ≤ 600000) :
    Calls Tryd.prog 23 #[.pointer (some ⟨p, 0, none⟩)] w (RetCA 34 p u k 800 w) := by
  have AM := Lib.hid (fun k n c A zs w h hk hz hn hn2 hA hf => among_any p k n c u A zs w h hk hz hn hn2 hA hf)
  have PK := Lib.hid (fun k m w h hk hm hm2 => pick_any p k m u w h hk hm hm2)
  have ON := Lib.hid (fun k m w h hk hm hm2 => one_any p k m u w h hk hm hm2)
  have AP := Lib.hid (fun k id day w h hk => approval28_any p k u id day w h hk)
  have LG := Lib.hid (fun A n c xs w hn hA h20 hw => l28Good_any A n c xs w hn hA h20 hw)
  have hp := h.lt
  have HL0 := Lib.hid (ARel.nil (W := w) (wr := w) (k := k) (u := u) 34 hp h (grown_refl w _))
  clear h
  go_enter Tryd.func23, Tryd.ntmps23
  go_wp2_with fail
  refine (AM.out k 3 _ (some ⟨w.heap.size + 1, 0, none⟩) [0, 100, 3950] _ (HL0.out.cur.alloc _) (by omega) rfl (by decide) (by decide) (rd_at (by simp) (rd_ints [0, 100, 3950] 3)) (fun g o q e => by injection e with e; injection e with e; omega)).mono ?_
  rintro e w1 ⟨v1, k1, rfl, ⟨d1, -, rfl⟩, hk1, hc, hg⟩
  have HL1 := Lib.hid ((HL0.out.below hp ((Below.refl _ _).alloc (Nat.le_refl _) _)).call hp hc hg)
  clear hc hg HL0
  go_wp2_with fail
  refine (PK.out k1 8 _ HL1.out.cur (by omega) (by decide) (by decide)).mono ?_
  rintro e w2 ⟨v2, k2, rfl, ⟨r2, rfl, a2, b2⟩, hk2, hc, hg⟩
  have HL2 := Lib.hid (HL1.out.call hp hc hg)
  obtain ⟨m, rfl⟩ : ∃ m : Nat, r2 = m := ⟨r2.toNat, by omega⟩
  have hm : m ≤ 7 := by omega
  clear hc hg HL1 a2 b2
  go_wp2_with fail
  go_loopw [3, 4, 5, 6, 7] (fun v i d n _ wr => ∃ (j : Nat) (z dd : Int) (xs : List AR) (vs : List Value) (kk : Nat), n = .int .i64 j ∧ i = .int .i64 z ∧ d = .int .i64 dd ∧ xs.length + j ≤ m ∧ kk + 80 * j ≤ k2 + 80 * m ∧ ARel w 34 p u xs v vs kk wr) (fun _ _ _ n _ _ => (intOf n).toNat)
  case atStart => exact ⟨m, 0, d1, [], [], k2, rfl, rfl, rfl, by simp, by omega, HL2.out⟩
  case round =>
    obtain ⟨wO, hwO⟩ : ∃ x, x = wr := ⟨wr, rfl⟩
    subst hwO
    obtain ⟨j, z, dd, xs, vs, kk, rfl, rfl, rfl, hxj, hkk, hL⟩ := hrel
    obtain ⟨A, c, rfl⟩ := own_form hL.own.row
    have HL := Lib.hid hL
    clear hL HL2
    by_cases hj0 : 0 < j
    · have hj0' : (0 : Int) < (j : Int) := by omega
      obtain ⟨z1, hz1⟩ : ∃ z1, IntKind.i64.wrap (z + 1) = z1 := ⟨_, rfl⟩
      go_wp2_with fail
      refine (PK.out kk 2 _ HL.out.cur (by omega) (by decide) (by decide)).mono ?_
      rintro e w3 ⟨v3, k3, rfl, ⟨r3, rfl, -, -⟩, hk3, hc, hg⟩
      have HL3 := Lib.hid (HL.out.call hp hc hg)
      clear hc hg HL
      obtain ⟨z3, hz3⟩ : ∃ z3, IntKind.i64.wrap (z1 + r3) = z3 := ⟨_, rfl⟩
      have OE : Hid ((w3.alloc (.cells #[] 34)).ownsRow w3.heap.size 34 6 (.slice (some ⟨w3.heap.size, 0, none⟩) 0 0) 0 []) := Lib.hid (own_empty w3 w3.heap.size 34 6 (Nat.le_refl _))
      have BE : Hid (Below w3.heap.size w3 (w3.alloc (.cells #[] 34))) := Lib.hid ((Below.refl _ _).alloc (Nat.le_refl _) _)
      have RE : Hid (Rd (w3.alloc (.cells #[] 34)) A (cellsA xs vs)) := Lib.hid ((Rd.of_own HL3.out.own.row).alloc _)
      have HLE : Hid ((cellsA xs vs).length = xs.length * 6) := Lib.hid (length_cellsA HL3.out.own.len)
      have HON : Hid (∀ u ∈ cellsA xs vs, u.oneCell' = true) := Lib.hid HL3.out.own.one
      go_wp2_with (at_builtin; go_must (refine wpList_app _ rfl (.tmp 24) (.tmp 25) 24 rfl w3.heap.size 34 _ 6 88 Tryd.underlying24 info34 rfl (by omega) _ _ _ rfl OE.out _ xs.length c (cellsA xs vs) rfl HLE.out RE.out HON.out (by unfold maxLen; omega) (by omega) (by simp) ?_); intro v4 w4 o4 g4 d4; refine Hid.out ?_)
      have e4 : 0 + xs.length = xs.length := Nat.zero_add _
      rw [e4, List.nil_append] at o4
      have B34 : Hid (Below w3.heap.size w3 w4) := Lib.hid (BE.out.grown g4 BE.out.size (fun q hq => (OE.out.lt q hq).1))
      have HL4 := Lib.hid (HL3.out.below hp B34.out)
      have HI4 := Lib.hid (HL3.out.own.copy (Only.refl _ w3) o4 HL3.out.sz B34.out)
      obtain ⟨A4, c4, rfl⟩ := own_form o4
      have HO4 := Lib.hid o4
      have hpw3 : p < w3.heap.size := Nat.lt_of_lt_of_le hp HL3.out.sz
      clear o4 g4 d4 OE BE RE HLE
      refine Lib.hid ?_
      go_wp2_with fail
      refine (AP.out k3 z3 dd _ HL4.out.cur (by omega)).mono ?_
      rintro e w5 ⟨x, a, b, k5, rfl, sa, sb, hdx, hk5, hc, hg⟩
      have HI5 := Lib.hid (HI4.out.keep hp (only_grown hg))
      have HO5 := Lib.hid (own_grown HO4.out hg hpw3)
      have hlo4 : ∀ q, (Value.slice A4 xs.length c4).ownBlock = some q → q < w4.heap.size := fun q hq => (HO4.out.lt q hq).2
      have hps : p < w4.heap.size := Nat.lt_of_lt_of_le hpw3 B34.out.size
      have SA := Lib.hid (sa.sub (T := fun q => q = p ∨ (Value.slice A4 xs.length c4).ownBlock = some q) (fun q hq _ => by rcases hq with rfl | hq; exact hps; exact hlo4 q hq))
      have SB := Lib.hid (sb.sub (T := fun q => q = p ∨ (Value.slice A4 xs.length c4).ownBlock = some q) (fun q hq _ => by rcases hq with rfl | hq; exact hps; exact hlo4 q hq))
      have hg35 := Lib.hid (grown_trans (grown_below (row := some p) B34.out) hg)
      have HC5 := Lib.hid hc
      obtain ⟨Aa, ca, rfl, ha1, ha2, -⟩ := sa.rd
      obtain ⟨Ab, cb, rfl, hb1, hb2, -⟩ := sb.rd
      have BX : Hid (Below w5.heap.size w5 (w5.alloc (.cells #[.int .i64 x.id, .string x.client, .int .i64 x.sent, .slice Aa x.items.length ca, .slice Ab x.kept.length cb, .int .i64 x.back] 34))) := Lib.hid ((Below.refl _ _).alloc (Nat.le_refl _) _)
      have HROW := Lib.hid (own_below HO5.out BX.out)
      have HDX := Lib.hid hdx
      have RX : Hid (Rd (w5.alloc (.cells #[.int .i64 x.id, .string x.client, .int .i64 x.sent, .slice Aa x.items.length ca, .slice Ab x.kept.length cb, .int .i64 x.back] 34)) (some ⟨w5.heap.size, 0, none⟩) [.int .i64 x.id, .string x.client, .int .i64 x.sent, .slice Aa x.items.length ca, .slice Ab x.kept.length cb, .int .i64 x.back]) := Lib.hid (rd_new #[.int .i64 x.id, .string x.client, .int .i64 x.sent, .slice Aa x.items.length ca, .slice Ab x.kept.length cb, .int .i64 x.back] 34 rfl)
      have hbs : w3.heap.size ≤ (w5.alloc (.cells #[.int .i64 x.id, .string x.client, .int .i64 x.sent, .slice Aa x.items.length ca, .slice Ab x.kept.length cb, .int .i64 x.back] 34)).heap.size := Nat.le_trans hg35.out.size BX.out.size
      clear hc hg sa sb hlo4 hps hdx HO4 HI4 HO5 HL4
      go_wp2_with (at_builtin; go_must (refine wpList_app _ rfl (.tmp 26) (.tmp 31) 24 rfl w3.heap.size 34 _ 6 88 Tryd.underlying24 info34 rfl (by omega) _ xs.length _ rfl HROW.out _ 1 1 [.int .i64 x.id, .string x.client, .int .i64 x.sent, .slice Aa x.items.length ca, .slice Ab x.kept.length cb, .int .i64 x.back] rfl rfl RX.out (by intro u hu; simp at hu; rcases hu with rfl | rfl | rfl | rfl | rfl | rfl <;> rfl) (by unfold maxLen; omega) (by omega) hbs ?_); intro v6 w6 o6 g6 d6; refine Hid.out ?_)
      have B56 : Hid (Below w3.heap.size w5 w6) := Lib.hid (((BX.out.mono hg35.out.size).grown g6 hbs (fun q hq => (HROW.out.lt q hq).1)))
      have HI6 := Lib.hid (HI5.out.snoc BX.out SA.out SB.out HDX.out (own_mono o6 HL3.out.sz) g6 d6)
      have hg36 := Lib.hid (grown_low hg35.out B56.out)
      have HC6 := Lib.hid (HC5.out.low B56.out hpw3)
      have HL6 := Lib.hid (HL3.out.call hp HC6.out hg36.out)
      have HN6 : Hid (ARel w 34 p u (xs ++ [x]) v6 (vs ++ [.slice Aa x.items.length ca, .slice Ab x.kept.length cb]) k5 w6) := Lib.hid ⟨HI6.out, HC6.out, HL6.out.gr⟩
      obtain ⟨A6, c6, rfl⟩ := own_form o6
      have HXL : Hid ((xs ++ [x]).length = xs.length + 1) := Lib.hid (by simp)
      clear o6 g6 d6 HROW RX BX HI5 HI6 SA SB hg35 hg36 HC5 HC6 HL3 B34 B56 HDX
      refine Lib.hid ?_
      go_wp2_with fail
      refine (LG.out A6 (xs.length + 1) c6 (xs ++ [x]) _ HXL.out HN6.out.own.rd2 (by omega) HN6.out.own.sm).mono ?_
      rintro e w7 ⟨rfl, b7⟩
      obtain ⟨gd, hgd⟩ : ∃ gd, gd = goodA (xs ++ [x]) := ⟨_, rfl⟩
      rw [← hgd]
      have HL7 := Lib.hid (HL6.out.below hp b7)
      have HN7 := Lib.hid (HN6.out.below hp b7)
      clear b7 hgd HL6 HN6
      cases gd with
      | true =>
        go_wp2_with fail
        refine (AM.out k5 5 _ (some ⟨w7.heap.size, 0, none⟩) [0, 1, 10, 11, 30] _ (HN7.out.cur.alloc _) (by omega) rfl (by decide) (by decide) (rd_ints (w := w7) [0, 1, 10, 11, 30] 3) (fun g o q e => by have := HN7.out.cur.lt; injection e with e; injection e with e; omega)).mono ?_
        rintro e w9 ⟨v9, k9, rfl, ⟨z9, -, rfl⟩, hk9, hc, hg⟩
        have HF9 := Lib.hid ((HN7.out.below hp ((Below.refl _ _).alloc (Nat.le_refl _) _)).call hp hc hg)
        clear hc hg HN7
        obtain ⟨d9, hd9⟩ : ∃ d9, IntKind.i64.wrap (dd + z9) = d9 := ⟨_, rfl⟩
        go_wp2_with fail
        refine (PK.out k9 150 _ HF9.out.cur (by omega) (by decide) (by decide)).mono ?_
        rintro e w10 ⟨v10, k10, rfl, ⟨r10, rfl, a10, b10⟩, hk10, hc, hg⟩
        have HF10 := Lib.hid (HF9.out.call hp hc hg)
        clear hc hg HF9
        obtain ⟨q10, hq10, hq0, hq1⟩ : ∃ q : Int, r10.tdiv 149 = q ∧ 0 ≤ q ∧ q ≤ 1 := ⟨_, rfl, by rw [Int.tdiv_eq_ediv_of_nonneg (by omega)]; omega, by rw [Int.tdiv_eq_ediv_of_nonneg (by omega)]; omega⟩
        have hwq10 : IntKind.i64.wrap q10 = q10 := IntWalk.i64_in _ (by omega)
        obtain ⟨d10, hd10⟩ : ∃ d10, IntKind.i64.wrap (d9 - q10) = d10 := ⟨_, rfl⟩
        clear a10 b10
        go_wp2
        go_roundw
        case rel => exact ⟨j - 1, z3, d10, _, _, k10, by go_num, rfl, rfl, by simp; omega, by omega, HF10.out⟩
        case measure => simp [intOf]; omega
      | false =>
        go_wp2_with fail
        refine (ON.out k5 40 _ HL7.out.cur (by omega) (by decide) (by decide)).mono ?_
        rintro e w8 ⟨v8, k8, rfl, ⟨b8, rfl⟩, hk8, hc, hg⟩
        have HL8 := Lib.hid (HL7.out.call hp hc hg)
        have HN8 := Lib.hid (HN7.out.call hp hc hg)
        clear hc hg HL7 HN7
        cases b8 with
        | true =>
          go_wp2_with fail
          refine (AM.out k8 5 _ (some ⟨w8.heap.size, 0, none⟩) [0, 1, 10, 11, 30] _ (HN8.out.cur.alloc _) (by omega) rfl (by decide) (by decide) (rd_ints (w := w8) [0, 1, 10, 11, 30] 3) (fun g o q e => by have := HN8.out.cur.lt; injection e with e; injection e with e; omega)).mono ?_
          rintro e w9 ⟨v9, k9, rfl, ⟨z9, -, rfl⟩, hk9, hc, hg⟩
          have HF9 := Lib.hid ((HN8.out.below hp ((Below.refl _ _).alloc (Nat.le_refl _) _)).call hp hc hg)
          clear hc hg HN8
          obtain ⟨d9, hd9⟩ : ∃ d9, IntKind.i64.wrap (dd + z9) = d9 := ⟨_, rfl⟩
          go_wp2_with fail
          refine (PK.out k9 150 _ HF9.out.cur (by omega) (by decide) (by decide)).mono ?_
          rintro e w10 ⟨v10, k10, rfl, ⟨r10, rfl, a10, b10⟩, hk10, hc, hg⟩
          have HF10 := Lib.hid (HF9.out.call hp hc hg)
          clear hc hg HF9
          obtain ⟨q10, hq10, hq0, hq1⟩ : ∃ q : Int, r10.tdiv 149 = q ∧ 0 ≤ q ∧ q ≤ 1 := ⟨_, rfl, by rw [Int.tdiv_eq_ediv_of_nonneg (by omega)]; omega, by rw [Int.tdiv_eq_ediv_of_nonneg (by omega)]; omega⟩
          have hwq10 : IntKind.i64.wrap q10 = q10 := IntWalk.i64_in _ (by omega)
          obtain ⟨d10, hd10⟩ : ∃ d10, IntKind.i64.wrap (d9 - q10) = d10 := ⟨_, rfl⟩
          clear a10 b10
          go_wp2
          go_roundw
          case rel => exact ⟨j - 1, z3, d10, _, _, k10, by go_num, rfl, rfl, by simp; omega, by omega, HF10.out⟩
          case measure => simp [intOf]; omega
        | false =>
          go_wp2_with fail
          refine (AM.out k8 5 _ (some ⟨w8.heap.size, 0, none⟩) [0, 1, 10, 11, 30] _ (HL8.out.cur.alloc _) (by omega) rfl (by decide) (by decide) (rd_ints (w := w8) [0, 1, 10, 11, 30] 3) (fun g o q e => by have := HL8.out.cur.lt; injection e with e; injection e with e; omega)).mono ?_
          rintro e w9 ⟨v9, k9, rfl, ⟨z9, -, rfl⟩, hk9, hc, hg⟩
          have HF9 := Lib.hid ((HL8.out.below hp ((Below.refl _ _).alloc (Nat.le_refl _) _)).call hp hc hg)
          clear hc hg HL8
          obtain ⟨d9, hd9⟩ : ∃ d9, IntKind.i64.wrap (dd + z9) = d9 := ⟨_, rfl⟩
          go_wp2_with fail
          refine (PK.out k9 150 _ HF9.out.cur (by omega) (by decide) (by decide)).mono ?_
          rintro e w10 ⟨v10, k10, rfl, ⟨r10, rfl, a10, b10⟩, hk10, hc, hg⟩
          have HF10 := Lib.hid (HF9.out.call hp hc hg)
          clear hc hg HF9
          obtain ⟨q10, hq10, hq0, hq1⟩ : ∃ q : Int, r10.tdiv 149 = q ∧ 0 ≤ q ∧ q ≤ 1 := ⟨_, rfl, by rw [Int.tdiv_eq_ediv_of_nonneg (by omega)]; omega, by rw [Int.tdiv_eq_ediv_of_nonneg (by omega)]; omega⟩
          have hwq10 : IntKind.i64.wrap q10 = q10 := IntWalk.i64_in _ (by omega)
          obtain ⟨d10, hd10⟩ : ∃ d10, IntKind.i64.wrap (d9 - q10) = d10 := ⟨_, rfl⟩
          clear a10 b10
          go_wp2
          go_roundw
          case rel => exact ⟨j - 1, z3, d10, _, _, k10, by go_num, rfl, rfl, by omega, by omega, HF10.out⟩
          case measure => simp [intOf]; omega
    · have hj : j = 0 := by omega
      subst hj
      rw [show ((0 : Nat) : Int) = 0 from rfl]
      go_wp2_with fail
      refine (ON.out kk 24 _ HL.out.cur (by omega) (by decide) (by decide)).mono ?_
      rintro e w3 ⟨v3, k3, rfl, ⟨b3, rfl⟩, hk3, hc, hg⟩
      have HL3 := Lib.hid (HL.out.call hp hc hg)
      clear hc hg HL
      cases b3 with
      | false =>
        go_wp2
        go_ret
        exact ⟨_, xs, vs, k3, rfl, HL3.out, by omega, by omega⟩
      | true =>
        have HS3 := Lib.hid (ARel.nil (W := w) (wr := w3) (k := k3) (u := u) 34 hp HL3.out.cur HL3.out.gr)
        clear HL3
        go_wp2_with fail
        go_loopw [3, 8] (fun v n wr => ∃ (t : Nat) (ys : List AR) (us : List Value) (kq : Nat), n = .int .i64 t ∧ t ≤ 13 ∧ ys.length = t ∧ kq ≤ k3 + 2 * t ∧ ARel w 34 p u ys v us kq wr) (fun _ n _ => 13 - (intOf n).toNat)
        case atStart => exact ⟨0, [], [], k3, rfl, by omega, rfl, by omega, HS3.out⟩
        case round =>
          obtain ⟨t, ys, us, kq, rfl, ht, hyt, hkq, hS⟩ := hrel
          obtain ⟨A, c, rfl⟩ := own_form hS.own.row
          have HS := Lib.hid hS
          have HYT := Lib.hid hyt
          have hyl : ys.length ≤ 13 := by omega
          clear hS HS3 hyt
          go_wp2_with fail
          refine (PK.out kq 2 _ HS.out.cur (by omega) (by decide) (by decide)).mono ?_
          rintro e w4 ⟨v4, k4, rfl, ⟨r4, rfl, a4, b4⟩, hk4, hc, hg⟩
          have HS4 := Lib.hid (HS.out.call hp hc hg)
          have hw4 : IntKind.i64.wrap (12 + r4) = 12 + r4 := IntWalk.i64_in _ (by omega)
          clear hc hg HS
          by_cases hlt : (t : Int) < 12 + r4
          · have hlt' : decide ((t : Int) < 12 + r4) = true := decide_eq_true hlt
            have hwt1 : IntKind.i64.wrap ((t : Int) + 1) = ((t + 1 : Nat) : Int) := by rw [IntWalk.i64_in _ (by omega)]; omega
            have hwt2 : IntKind.i64.wrap (20 + (t : Int)) = 20 + (t : Int) := IntWalk.i64_in _ (by omega)
            have BI : Hid (Below w4.heap.size w4 (w4.alloc (.cells #[.int .i64 (20 + (t : Int))] 3))) := Lib.hid ((Below.refl _ _).alloc (Nat.le_refl _) _)
            have HS5 := Lib.hid (HS4.out.below hp BI.out)
            have OI : Hid ((w4.alloc (.cells #[.int .i64 (20 + (t : Int))] 3)).ownsRow w4.heap.size 3 1 (.slice (some ⟨w4.heap.size, 0, none⟩) 1 1) 1 (cells1 [20 + (t : Int)])) := Lib.hid (World.ownsRow_lit (e := 3) (base := w4.heap.size) w4 #[.int .i64 (20 + (t : Int))] (size := 1) 1 (Nat.le_refl _) (by unfold maxLen; omega) rfl)
            have hpw4 : p < w4.heap.size := Nat.lt_of_lt_of_le hp HS4.out.sz
            have SA : Hid (StI (fun q => q = p ∨ (Value.slice A ys.length c).ownBlock = some q) (w4.alloc (.cells #[.int .i64 (20 + (t : Int))] 3)) (.slice (some ⟨w4.heap.size, 0, none⟩) 1 1) [20 + (t : Int)]) := Lib.hid (StI.of_own (e := 3) OI.out (fun q hq hS => by
              simp [Value.ownBlock] at hq
              rcases hS with hS | hS
              · omega
              · have := (HS4.out.own.row.lt q hS).2; omega))
            obtain ⟨w5, hw5⟩ : ∃ x, x = w4.alloc (.cells #[.int .i64 (20 + (t : Int))] 3) := ⟨_, rfl⟩
            have hz5 : w5.heap.size = w4.heap.size + 1 := by rw [hw5]; simp
            rw [← hw5] at HS5 SA
            have SB : Hid (StI (fun q => q = p ∨ (Value.slice A ys.length c).ownBlock = some q) w5 (.slice none 0 0) []) := Lib.hid (StI.nil _ _)
            have BX : Hid (Below w5.heap.size w5 (w5.alloc (.cells #[.int .i64 ((t + 1 : Nat) : Int), .string ⟨#[98, 111]⟩, .int .i64 (t : Int), .slice (some ⟨w4.heap.size, 0, none⟩) 1 1, .slice none 0 0, .int .i64 (-1)] 34))) := Lib.hid ((Below.refl _ _).alloc (Nat.le_refl _) _)
            have HROW := Lib.hid (own_below HS5.out.own.row BX.out)
            have RX : Hid (Rd (w5.alloc (.cells #[.int .i64 ((t + 1 : Nat) : Int), .string ⟨#[98, 111]⟩, .int .i64 (t : Int), .slice (some ⟨w4.heap.size, 0, none⟩) 1 1, .slice none 0 0, .int .i64 (-1)] 34)) (some ⟨w4.heap.size + 1, 0, none⟩) [.int .i64 ((t + 1 : Nat) : Int), .string ⟨#[98, 111]⟩, .int .i64 (t : Int), .slice (some ⟨w4.heap.size, 0, none⟩) 1 1, .slice none 0 0, .int .i64 (-1)]) := Lib.hid (by rw [← hz5]; exact rd_new #[.int .i64 ((t + 1 : Nat) : Int), .string ⟨#[98, 111]⟩, .int .i64 (t : Int), .slice (some ⟨w4.heap.size, 0, none⟩) 1 1, .slice none 0 0, .int .i64 (-1)] 34 rfl)
            have hbs : w.heap.size ≤ (w5.alloc (.cells #[.int .i64 ((t + 1 : Nat) : Int), .string ⟨#[98, 111]⟩, .int .i64 (t : Int), .slice (some ⟨w4.heap.size, 0, none⟩) 1 1, .slice none 0 0, .int .i64 (-1)] 34)).heap.size := Nat.le_trans HS5.out.sz BX.out.size
            have HW5 := Lib.hid hw5
            clear hw5 hz5 OI BI HS4
            rw [HW5.out] at HROW RX hbs
            go_wp2_with (at_builtin; go_must (refine wpList_app _ rfl (.tmp 59) (.tmp 67) 24 rfl w.heap.size 34 _ 6 88 Tryd.underlying24 info34 rfl (by omega) _ ys.length _ rfl HROW.out _ 1 1 [.int .i64 ((t + 1 : Nat) : Int), .string ⟨#[98, 111]⟩, .int .i64 (t : Int), .slice (some ⟨w4.heap.size, 0, none⟩) 1 1, .slice none 0 0, .int .i64 (-1)] rfl rfl RX.out (by intro u hu; simp at hu; rcases hu with rfl | rfl | rfl | rfl | rfl | rfl <;> rfl) (by unfold maxLen; omega) (by omega) hbs ?_); intro v6 w6 o6 g6 d6; refine Hid.out ?_)
            rw [← HW5.out] at g6 d6
            have HS6 := Lib.hid (HS5.out.snoc hp BX.out (x := ⟨((t + 1 : Nat) : Int), ⟨#[98, 111]⟩, t, [20 + (t : Int)], [], -1⟩) SA.out SB.out ⟨by show (2 : Nat) ≤ 10; omega, by show (1 : Nat) ≤ 9; omega, by show (0 : Nat) ≤ 9; omega⟩ o6 g6 d6)
            clear o6 g6 d6 HROW RX BX SA SB HS5 HW5
            refine Lib.hid ?_
            go_wp2
            go_roundw
            case rel => exact ⟨t + 1, _, _, k4, by go_num, by omega, by simp [HYT.out], by omega, HS6.out⟩
            case measure => simp [intOf]; omega
          · have hlt' : decide ((t : Int) < 12 + r4) = false := decide_eq_false hlt
            go_wp2
            go_ret
            exact ⟨_, ys, us, k4, rfl, HS4.out, by have := HYT.out; omega, by omega⟩

def leastOf (a b : Int) : Int := if a < b then a else b
theorem l1Least_any (a b : Int) (w : World) : Calls Tryd.prog 62 #[.int .i64 a, .int .i64 b] w (RetS (.int .i64 (leastOf a b)) w) := by
  by_cases h : a < b
  · go_enter Tryd.func62, Tryd.ntmps62
    go_wp2
    go_ret
    exact ⟨ret_int (by rw [leastOf, if_pos h]), rfl⟩
  · go_enter Tryd.func62, Tryd.ntmps62
    go_wp2
    go_ret
    exact ⟨ret_int (by rw [leastOf, if_neg (by omega)]), rfl⟩
set_option maxRecDepth 20000 in
set_option maxHeartbeats 4000000 in
theorem approvalDay_any (p k : Nat) (u : Cu) (w : World) (A : Option Addr) (n c : Nat) (xs : List AR) (hn : xs.length = n) (hx : n ≤ 13) (hA : ∀ w', Only (· = p) w w' → RdA w' A xs) (h : CurB w p u k) (hk : k ≤ 700000) :
    Calls Tryd.prog 38 #[.pointer (some ⟨p, 0, none⟩), .slice A n c] w (RetC p u k 8 IntV w) := by
  have AM := Lib.hid (fun k n c A zs w h hk hz hn hn2 hA hf => among_any p k n c u A zs w h hk hz hn hn2 hA hf)
  have PK := Lib.hid (fun k m w h hk hm hm2 => pick_any p k m u w h hk hm hm2)
  have ON := Lib.hid (fun k m w h hk hm hm2 => one_any p k m u w h hk hm hm2)
  have HC := Lib.hid h
  have HN := Lib.hid hn
  have HA := Lib.hid hA
  have hpl := h.lt
  clear h hn hA
  go_enter Tryd.func38, Tryd.ntmps38
  by_cases h0 : n = 0
  · subst h0
    go_wp2_with fail
    refine (PK.out k 24 _ (HC.out.alloc _) (by omega) (by decide) (by decide)).mono ?_
    rintro e w1 ⟨v1, k1, rfl, ⟨r1, rfl, a1, b1⟩, hk1, hc, hg⟩
    have HC1 := Lib.hid hc
    have HG1 := Lib.hid (grown_trans (grown_refl w _) (grown_trans (World.grownBy_alloc w _ _) hg))
    have RD1 : Hid (Rd w1 (some ⟨w.heap.size, 0, none⟩) (cells1 [0, 77, 4000, -1, 4001])) := Lib.hid (Rd.grown hg (rd_ints (w := w) [0, 77, 4000, -1, 4001] 3) (fun g o q e => by injection e with e; injection e with e e2 e3; intro e4; injection e4 with e4; omega))
    obtain ⟨q1, hq1, hqq1⟩ : ∃ q : Nat, r1.tdiv 11 = (q : Int) ∧ q ≤ 2 := ⟨(r1.tdiv 11).toNat, by rw [Int.toNat_of_nonneg]; rw [Int.tdiv_eq_ediv_of_nonneg (by omega)]; omega, by rw [Int.tdiv_eq_ediv_of_nonneg (by omega)]; omega⟩
    obtain ⟨m1, hm1⟩ : ∃ m, m = 3 + q1 := ⟨_, rfl⟩
    have hwq1 : IntKind.i64.wrap (q1 : Int) = (q1 : Int) := IntWalk.i64_in _ (by omega)
    have hwm1 : IntKind.i64.wrap (3 + (q1 : Int)) = (m1 : Int) := by rw [IntWalk.i64_in _ (by omega)]; omega
    have hma1 : 1 ≤ m1 := by omega
    have hmb1 : m1 ≤ 5 := by omega
    have hm01 : (0 : Int) ≤ (m1 : Int) := by omega
    have hmc1 : (m1 : Int) ≤ 5 := by omega
    clear hc hg hm1 a1 b1
    go_wp2_with fail
    refine (AM.out k1 m1 _ (some ⟨w.heap.size, 0, none⟩) ([0, 77, 4000, -1, 4001].take m1) _ HC1.out (by omega) (by simp; omega) (by omega) (by omega) (rd_take1 RD1.out m1) (fun g o q e => by injection e with e; injection e with e e2 e3; omega)).mono ?_
    rintro e w2 ⟨v2, k2, rfl, ⟨z2, -, rfl⟩, hk2, hc, hg⟩
    go_wp2
    go_ret
    exact ⟨_, k2, rfl, ⟨z2, rfl⟩, by omega, hc, grown_trans HG1.out hg⟩
  · have hn0 : ((n : Int) == 0) = false := by simp; omega
    go_wp2_with fail
    refine (ON.out k 6 _ HC.out (by omega) (by decide) (by decide)).mono ?_
    rintro e w0 ⟨v0, k0, rfl, ⟨b0, rfl⟩, hk0, hc, hg⟩
    have HC0 := Lib.hid hc
    have HG0 := Lib.hid hg
    have hpl0 := hc.lt
    clear hc hg
    cases b0 with
    | true =>
      go_wp2_with fail
      refine (PK.out k0 24 _ (HC0.out.alloc _) (by omega) (by decide) (by decide)).mono ?_
      rintro e w1 ⟨v1, k1, rfl, ⟨r1, rfl, a1, b1⟩, hk1, hc, hg⟩
      have HC1 := Lib.hid hc
      have HG1 := Lib.hid (grown_trans (HG0.out) (grown_trans (World.grownBy_alloc w0 _ _) hg))
      have RD1 : Hid (Rd w1 (some ⟨w0.heap.size, 0, none⟩) (cells1 [0, 77, 4000, -1, 4001])) := Lib.hid (Rd.grown hg (rd_ints (w := w0) [0, 77, 4000, -1, 4001] 3) (fun g o q e => by injection e with e; injection e with e e2 e3; intro e4; injection e4 with e4; omega))
      obtain ⟨q1, hq1, hqq1⟩ : ∃ q : Nat, r1.tdiv 11 = (q : Int) ∧ q ≤ 2 := ⟨(r1.tdiv 11).toNat, by rw [Int.toNat_of_nonneg]; rw [Int.tdiv_eq_ediv_of_nonneg (by omega)]; omega, by rw [Int.tdiv_eq_ediv_of_nonneg (by omega)]; omega⟩
      obtain ⟨m1, hm1⟩ : ∃ m, m = 3 + q1 := ⟨_, rfl⟩
      have hwq1 : IntKind.i64.wrap (q1 : Int) = (q1 : Int) := IntWalk.i64_in _ (by omega)
      have hwm1 : IntKind.i64.wrap (3 + (q1 : Int)) = (m1 : Int) := by rw [IntWalk.i64_in _ (by omega)]; omega
      have hma1 : 1 ≤ m1 := by omega
      have hmb1 : m1 ≤ 5 := by omega
      have hm01 : (0 : Int) ≤ (m1 : Int) := by omega
      have hmc1 : (m1 : Int) ≤ 5 := by omega
      clear hc hg hm1 a1 b1
      go_wp2_with fail
      refine (AM.out k1 m1 _ (some ⟨w0.heap.size, 0, none⟩) ([0, 77, 4000, -1, 4001].take m1) _ HC1.out (by omega) (by simp; omega) (by omega) (by omega) (rd_take1 RD1.out m1) (fun g o q e => by injection e with e; injection e with e e2 e3; omega)).mono ?_
      rintro e w2 ⟨v2, k2, rfl, ⟨z2, -, rfl⟩, hk2, hc, hg⟩
      go_wp2
      go_ret
      exact ⟨_, k2, rfl, ⟨z2, rfl⟩, by omega, hc, grown_trans HG1.out hg⟩
    | false =>
      go_wp2_with fail
      refine (PK.out k0 n _ HC0.out (by omega) (by omega) (by omega)).mono ?_
      rintro e w1 ⟨v1, k1, rfl, ⟨r1, rfl, a1, b1⟩, hk1, hc, hg⟩
      have HC1 := Lib.hid hc
      have HG1 := Lib.hid (grown_trans HG0.out hg)
      clear hc hg
      obtain ⟨m, rfl⟩ : ∃ m : Nat, r1 = m := ⟨r1.toNat, by omega⟩
      have hml : m < n := by omega
      obtain ⟨x, hxm⟩ : ∃ x, xs[m]? = some x := ⟨xs[m]'(by have := HN.out; omega), List.getElem?_eq_getElem _⟩
      obtain ⟨g, o, B, cB, D, cD, hAe, hrow⟩ := (HA.out w1 (only_grown HG1.out)).at hxm
      subst hAe
      obtain ⟨hgl, -, c0, c1, c2, c3, c4, c5, -, -, -, -, -, -⟩ := hrow
      have hml' : (m : Int) < (n : Int) := by omega
      have hm0 : (0 : Int) ≤ (m : Int) := by omega
      obtain ⟨y1, hy1⟩ : ∃ y1, IntKind.i64.wrap (x.sent - 1) = y1 := ⟨_, rfl⟩
      obtain ⟨y2, hy2⟩ : ∃ y2, IntKind.i64.wrap (x.back - 1) = y2 := ⟨_, rfl⟩
      obtain ⟨y3, hy3⟩ : ∃ y3, IntKind.i64.wrap (x.sent + 11) = y3 := ⟨_, rfl⟩
      clear a1 b1 hxm
      go_wp2_with fail
      refine (AM.out k1 5 _ (some ⟨w1.heap.size + 1, 0, none⟩) [x.sent, y1, x.back, y2, y3] _ ((HC1.out.alloc _).alloc _) (by omega) rfl (by decide) (by decide) (rd_at (by simp) (rd_ints [x.sent, y1, x.back, y2, y3] 3)) (fun g o q e => by have := HC1.out.lt; injection e with e; injection e with e; omega)).mono ?_
      rintro e w2 ⟨v2, k2, rfl, ⟨z2, -, rfl⟩, hk2, hc, hg⟩
      have HC2 := Lib.hid hc
      have HG2 := Lib.hid (grown_trans HG1.out (grown_trans (grown_alloc (World.grownBy_alloc w1 _ _) _) hg))
      clear hc hg
      go_wp2_with fail
      refine (l1Most_any 0 z2 _).mono ?_
      rintro e w3 ⟨rfl, rfl⟩
      go_wp2_with fail
      refine (l1Least_any 4000 _ _).mono ?_
      rintro e w4 ⟨rfl, rfl⟩
      go_wp2
      go_ret
      exact ⟨_, k2, rfl, ⟨_, rfl⟩, by omega, HC2.out, HG2.out⟩
end Go.Proofs.YtehohkdipfphmaaDoor
