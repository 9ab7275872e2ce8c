/- What the cursor draws of stock books: width27, book27. -/
import Derived.Test.YtacacibpehnmgaaGreatDoorDrB1
import Derived.Test.YtacacibpehnmgaaGreatDoorStoJ
namespace Go.Proofs.YtacacibpehnmgaaGreatDoor
set_option linter.unusedVariables false
set_option linter.unusedSimpArgs false
open Go.RowKit

set_option maxRecDepth 20000 in
set_option maxHeartbeats 2000000 in
theorem width27_any (p k : Nat) (u : Cu) (w : World) (h : CurB w p u k) (hk : k ≤ 900000) :
    Calls Tryz.prog 28 #[.pointer (some ⟨p, 0, none⟩)] w (RetC p u k 2 IntV w) := by
  have AM := Lib.hid (fun k n c A zs w h hk hz hn hn2 hA hf => among_any p k n c u A zs w h hk hz hn hn2 hA hf)
  have HC := Lib.hid h
  clear h
  go_enter Tryz.func28, Tryz.ntmps28
  go_wp2_with fail
  refine (AM.out k 8 _ (some ⟨w.heap.size, 0, none⟩) [10, 20, 20, 24, 30, 39, 40, 60] _ ((HC.out).alloc _) (by omega) rfl (by decide) (by decide) (rd_ints (w := w) [10, 20, 20, 24, 30, 39, 40, 60] 3) (fun g o q e => by have := HC.out.lt; injection e with e; injection e with e; omega)).mono ?_
  rintro e w1 ⟨vw1, k1, rfl, ⟨zw1, -, rfl⟩, hk1, hc, hg⟩
  go_wp2
  go_ret
  exact ⟨_, k1, rfl, ⟨_, rfl⟩, hk1, hc, grown_trans (World.grownBy_alloc w _ _) hg⟩

set_option maxRecDepth 20000 in
set_option maxHeartbeats 8000000 in
theorem book27_any (p k : Nat) (u : Cu) (w : World) (h : CurB w p u k) (hk : k ≤ 700000) :
    Calls Tryz.prog 25 #[.pointer (some ⟨p, 0, none⟩)] w (RetCB 34 3 p u k 600 w) := by
  have AM := Lib.hid (fun k n c A zs w h hk hz hn hn2 hA hf => among_any p k n c u A zs w h hk hz hn hn2 hA hf)
  have PK := Lib.hid (fun k m w h hk hm hm2 => pick_any p k m u w h hk hm hm2)
  have ON := Lib.hid (fun k m w h hk hm hm2 => one_any p k m u w h hk hm hm2)
  have WI := Lib.hid (fun k w h hk => width27_any p k u w h hk)
  have RO := Lib.hid (fun A n c ws x w hn hA h20 => l27Room_any A n c ws x w hn hA h20)
  have HC := Lib.hid h
  have hp := h.lt
  clear h
  go_enter Tryz.func25, Tryz.ntmps25
  go_wp2_with fail
  refine (PK.out k 6 _ (HC.out.alloc _) (by omega) (by decide) (by decide)).mono ?_
  rintro e w1 ⟨v1, k1, rfl, ⟨r1, rfl, a1, b1⟩, hk1, hc, hg⟩
  obtain ⟨m, rfl⟩ : ∃ m : Nat, r1 = m := ⟨r1.toNat, by omega⟩
  have hm : m ≤ 5 := by omega
  have HL0 : Hid (BRel w 34 3 p u [] (.slice (some ⟨w.heap.size, 0, none⟩) 0 0) [] k1 w1) := Lib.hid (BRel.call (wr := w.alloc (.cells #[] 34)) (k := k) ⟨ownB_empty w _ _ _ (Nat.le_refl _), HC.out.alloc _, World.grownBy_alloc w _ _⟩ hp hc hg)
  clear a1 b1 hc hg HC
  go_wp2_with fail
  go_loopw [3, 4, 5, 6, 7, 8] (fun v i n _ _ _ wr => ∃ (j : Nat) (z : Int) (xs : List BR) (vs : List Value) (kk : Nat), n = .int .i64 j ∧ i = .int .i64 z ∧ (0 ≤ z ∧ z ≤ 3 * (xs.length : Int)) ∧ xs.length + j = m ∧ (∀ x ∈ xs, x.ws.length ≤ 7) ∧ kk + 40 * j ≤ k1 + 40 * m ∧ BRel w 34 3 p u xs v vs kk wr) (fun _ _ n _ _ _ _ => (intOf n).toNat)
  case atStart => exact ⟨m, 0, [], [], k1, rfl, rfl, by simp, by simp, by simp, by omega, HL0.out⟩
  case round =>
    obtain ⟨wO, hwO⟩ : ∃ x, x = wr := ⟨wr, rfl⟩
    subst hwO
    obtain ⟨j, z, xs, vs, kk, rfl, rfl, hz, hxj, hxw, hkk, hL⟩ := hrel
    obtain ⟨A, c, rfl⟩ := own_form hL.own.2.1
    have HL := Lib.hid hL
    have HXW := Lib.hid hxw
    clear hL HL0 hxw
    by_cases hj0 : 0 < j
    · have hj0' : (0 : Int) < (j : Int) := by omega
      have hwA : IntKind.i64.wrap (z + 1) = z + 1 := IntWalk.i64_in _ (by omega)
      go_wp2_with fail
      refine (PK.out kk 3 _ HL.out.cur (by omega) (by decide) (by decide)).mono ?_
      rintro e w2 ⟨v2, k2, rfl, ⟨r2, rfl, a2, b2⟩, hk2, hc, hg⟩
      have HL2 := Lib.hid (HL.out.call hp hc hg)
      clear hc hg HL
      have hwB : IntKind.i64.wrap (z + 1 + r2) = z + 1 + r2 := IntWalk.i64_in _ (by omega)
      go_wp2_with fail
      refine (PK.out k2 150 _ HL2.out.cur (by omega) (by decide) (by decide)).mono ?_
      rintro e w3 ⟨v3, k3, rfl, ⟨r3, rfl, a3, b3⟩, hk3, hc, hg⟩
      have HL3 := Lib.hid (HL2.out.call hp hc hg)
      clear hc hg HL2
      obtain ⟨q, hq, hq0, hq1⟩ : ∃ q : Int, r3.tdiv 149 = q ∧ 0 ≤ q ∧ q ≤ 1 := ⟨_, rfl, by rw [Int.tdiv_eq_ediv_of_nonneg (by omega)]; omega, by rw [Int.tdiv_eq_ediv_of_nonneg (by omega)]; omega⟩
      have hwq : IntKind.i64.wrap q = q := IntWalk.i64_in _ (by omega)
      have hwC : IntKind.i64.wrap (z + 1 + r2 - q) = z + 1 + r2 - q := IntWalk.i64_in _ (by omega)
      obtain ⟨z2, hz2⟩ : ∃ z2, z + 1 + r2 - q = z2 := ⟨_, rfl⟩
      have hz3 : 0 ≤ z2 ∧ z2 ≤ 3 * ((xs.length : Int) + 1) := by omega
      rw [hz2] at hwC
      have HRR := Lib.hid (RRel.new (z := z2) HL3.out 34)
      clear a2 b2 a3 b3 HL3
      go_wp2_with fail
      refine (PK.out k3 8 _ HRR.out.b.cur (by omega) (by decide) (by decide)).mono ?_
      rintro e w5 ⟨v5, k5, rfl, ⟨r5, rfl, a5, b5⟩, hk5, hc, hg⟩
      obtain ⟨n5, rfl⟩ : ∃ n5 : Nat, r5 = n5 := ⟨r5.toNat, by omega⟩
      have hn5 : n5 ≤ 7 := by omega
      have HR5 := Lib.hid (HRR.out.call hp hc hg)
      clear hc hg HRR a5 b5
      go_wp2_with fail
      go_loopw [7, 8] (fun n _ wr => ∃ (t : Nat) (ws : List Int) (a : Value) (kq : Nat), n = .int .i64 t ∧ ws.length + t ≤ n5 ∧ kq + 4 * t ≤ k5 + 4 * n5 ∧ RRel w 34 3 p w3.heap.size w3.heap.size u xs (.slice A xs.length c) vs z2 ws a kq wr) (fun n _ _ => (intOf n).toNat)
      case atStart => exact ⟨n5, [], .slice none 0 0, k5, rfl, by simp, by omega, HR5.out⟩
      case round =>
        obtain ⟨t, ws, a, kq, rfl, hwt, hkq, hR⟩ := hrel
        obtain ⟨Aa, ca, rfl⟩ := own_form hR.row
        have HR := Lib.hid hR
        clear hR HR5
        by_cases ht0 : 0 < t
        · have ht0' : (0 : Int) < (t : Int) := by omega
          go_wp2_with fail
          refine (WI.out kq _ HR.out.b.cur (by omega)).mono ?_
          rintro e w6 ⟨v6, k6, rfl, ⟨x, rfl⟩, hk6, hc, hg⟩
          have HR6 := Lib.hid (HR.out.call hp hc hg)
          clear hc hg HR
          have e1 := HR6.out.box.cell 1 _ rfl
          go_wp2_with fail
          refine (RO.out Aa ws.length ca ws x _ rfl (Rd.of_own HR6.out.row) (by omega)).mono ?_
          rintro e w7 ⟨rfl, b7⟩
          have HR7 := Lib.hid (HR6.out.below b7)
          obtain ⟨rm, hrm⟩ : ∃ rm, rm = roomB ws x := ⟨_, rfl⟩
          rw [← hrm]
          clear b7 HR6 e1 hrm
          cases rm with
          | true =>
            have e1 := HR7.out.box.cell 1 _ rfl
            have hbx : Below w7.heap.size w7 (w7.alloc (.cells #[.int .i64 x] 3)) := (Below.refl _ _).alloc (Nat.le_refl _) _
            have HRa := Lib.hid (HR7.out.below hbx)
            have HROW := Lib.hid HRa.out.row
            have HXa : Hid (Rd (w7.alloc (.cells #[.int .i64 x] 3)) (some ⟨w7.heap.size, 0, none⟩) [.int .i64 x]) := Lib.hid (rd_new #[.int .i64 x] 3 rfl)
            have hbs : w3.heap.size ≤ (w7.alloc (.cells #[.int .i64 x] 3)).heap.size := Nat.le_of_lt HRa.out.box.lt
            have e1a := HRa.out.box.cell 1 _ rfl
            clear hbx HR7
            go_wp2_with (at_builtin; go_must (refine wpList_app _ rfl (.tmp 48) (.tmp 50) 25 rfl w3.heap.size 3 _ 1 8 Tryz.underlying25 infoI rfl (by omega) _ _ _ rfl HROW.out _ 1 1 [.int .i64 x] rfl rfl HXa.out (oneCell_ints [x]) (by unfold maxLen; omega) (by omega) hbs ?_); intro v9 w9 o9 g9 d9; refine Hid.out ?_)
            obtain ⟨A9, cc9, e9⟩ := own_form o9
            subst e9
            have hb9 := HRa.out.box.grown g9 (fun e => HRa.out.ne e.symm)
            have c9 := hb9.cell 1 _ rfl
            have f9 := hb9.fr 1 (by simp)
            have l9 := hb9.lt
            have HRf := Lib.hid (HRa.out.push hp o9 g9 d9)
            clear o9 g9 d9 hb9 HRa HROW HXa hbs e1 e1a
            refine Lib.hid ?_
            go_wp2
            go_roundw
            case rel => exact ⟨t - 1, ws ++ [x], _, k6, by go_num, by simp; omega, by omega, HRf.out⟩
            case measure => simp [intOf]; omega
          | false =>
            go_wp2_with fail
            refine (ON.out k6 80 _ HR7.out.b.cur (by omega) (by decide) (by decide)).mono ?_
            rintro e w8 ⟨v8, k8, rfl, ⟨b8, rfl⟩, hk8, hc, hg⟩
            have HR8 := Lib.hid (HR7.out.call hp hc hg)
            clear hc hg HR7
            cases b8 with
            | true =>
              have e1 := HR8.out.box.cell 1 _ rfl
              have hbx : Below w8.heap.size w8 (w8.alloc (.cells #[.int .i64 x] 3)) := (Below.refl _ _).alloc (Nat.le_refl _) _
              have HRa := Lib.hid (HR8.out.below hbx)
              have HROW := Lib.hid HRa.out.row
              have HXa : Hid (Rd (w8.alloc (.cells #[.int .i64 x] 3)) (some ⟨w8.heap.size, 0, none⟩) [.int .i64 x]) := Lib.hid (rd_new #[.int .i64 x] 3 rfl)
              have hbs : w3.heap.size ≤ (w8.alloc (.cells #[.int .i64 x] 3)).heap.size := Nat.le_of_lt HRa.out.box.lt
              have e1a := HRa.out.box.cell 1 _ rfl
              clear hbx HR8
              go_wp2_with (at_builtin; go_must (refine wpList_app _ rfl (.tmp 48) (.tmp 50) 25 rfl w3.heap.size 3 _ 1 8 Tryz.underlying25 infoI rfl (by omega) _ _ _ rfl HROW.out _ 1 1 [.int .i64 x] rfl rfl HXa.out (oneCell_ints [x]) (by unfold maxLen; omega) (by omega) hbs ?_); intro v9 w9 o9 g9 d9; refine Hid.out ?_)
              obtain ⟨A9, cc9, e9⟩ := own_form o9
              subst e9
              have hb9 := HRa.out.box.grown g9 (fun e => HRa.out.ne e.symm)
              have c9 := hb9.cell 1 _ rfl
              have f9 := hb9.fr 1 (by simp)
              have l9 := hb9.lt
              have HRf := Lib.hid (HRa.out.push hp o9 g9 d9)
              clear o9 g9 d9 hb9 HRa HROW HXa hbs e1 e1a
              refine Lib.hid ?_
              go_wp2
              go_roundw
              case rel => exact ⟨t - 1, ws ++ [x], _, k8, by go_num, by simp; omega, by omega, HRf.out⟩
              case measure => simp [intOf]; omega
            | false =>
              go_wp2
              go_roundw
              case rel => exact ⟨t - 1, ws, _, k8, by go_num, by omega, by omega, HR8.out⟩
              case measure => simp [intOf]; omega
        · have ht : t = 0 := by omega
          subst ht
          have e0 := HR.out.box.cell 0 _ rfl
          have e1 := HR.out.box.cell 1 _ rfl
          have hbx : Below wr.heap.size wr (wr.alloc (.cells #[.int .i64 z2, .slice Aa ws.length ca] 34)) := (Below.refl _ _).alloc (Nat.le_refl _) _
          have HRa := Lib.hid (HR.out.below hbx)
          have HROW := Lib.hid HRa.out.b.own.2.1
          have HXa : Hid (Rd (wr.alloc (.cells #[.int .i64 z2, .slice Aa ws.length ca] 34)) (some ⟨wr.heap.size, 0, none⟩) [.int .i64 z2, .slice Aa ws.length ca]) := Lib.hid (rd_new #[.int .i64 z2, .slice Aa ws.length ca] 34 rfl)
          have hbs : w.heap.size ≤ (wr.alloc (.cells #[.int .i64 z2, .slice Aa ws.length ca] 34)).heap.size := HRa.out.b.sz
          clear hbx HR
          go_wp2_with (at_builtin; go_must (refine wpList_app _ rfl (.tmp 53) (.tmp 55) 24 rfl w.heap.size 34 _ 2 32 Tryz.underlying24 info34 rfl (by omega) _ _ _ rfl HROW.out _ 1 1 [.int .i64 z2, .slice Aa ws.length ca] rfl rfl HXa.out (by intro u hu; simp at hu; rcases hu with rfl | rfl <;> rfl) (by unfold maxLen; omega) (by omega) hbs ?_); intro v9 w9 o9 g9 d9; refine Hid.out ?_)
          have HLf := Lib.hid (HRa.out.done hp o9 g9 d9)
          obtain ⟨A9, c9, e9⟩ := own_form o9
          subst e9
          clear o9 g9 d9 HRa HROW HXa hbs e0 e1
          have HMM : Hid (∀ x ∈ xs ++ [(⟨z2, ws⟩ : BR)], x.ws.length ≤ 7) := Lib.hid (fun x hx => by
            rcases List.mem_append.1 hx with hx | hx
            · exact HXW.out x hx
            · simp at hx; subst hx; show ws.length ≤ 7; omega)
          refine Lib.hid ?_
          go_wp2
          go_roundw
          case rel => exact ⟨j - 1, z2, xs ++ [⟨z2, ws⟩], _, kq, by go_num, rfl, by simp; omega, by simp; omega, HMM.out, by omega, by simpa using HLf.out⟩
          case measure => simp [intOf]; omega
    · have hj0 : j = 0 := by omega
      subst hj0
      go_wp2_with fail
      refine (PK.out kk 40 _ HL.out.cur (by omega) (by decide) (by decide)).mono ?_
      rintro e w4 ⟨v4, k4, rfl, ⟨r4, rfl, a4, b4⟩, hk4, hc, hg⟩
      have HL4 := Lib.hid (HL.out.call hp hc hg)
      clear hc hg HL
      obtain ⟨t4, rfl⟩ : ∃ t4 : Nat, r4 = t4 := ⟨r4.toNat, by omega⟩
      have hrow : ∀ i, xs.length = i + 1 → ∃ g x uu, A = some ⟨g, 0, none⟩ ∧ xs[i]? = some x ∧ vs[i]? = some uu := fun i hi => by
        obtain ⟨g, hg⟩ := own_somei HL4.out.own.2.1 (by omega)
        have hvl := HL4.out.own.1
        exact ⟨g, xs[i], vs[i], hg, List.getElem?_eq_getElem (by omega), List.getElem?_eq_getElem (by omega)⟩
      have HROWS := Lib.hid hrow
      clear hrow
      by_cases h0 : t4 = 0
      · subst h0
        by_cases hl : 0 < xs.length
        · obtain ⟨i, hi⟩ : ∃ i, xs.length = i + 1 := ⟨xs.length - 1, by omega⟩
          obtain ⟨g, x, uu, rfl, hx, huu⟩ := HROWS.out i hi
          have hl' : (0 : Int) < (xs.length : Int) := by omega
          have hwi : IntKind.i64.wrap ((xs.length : Int) - 1) = (i : Int) := by rw [IntWalk.i64_in _ (by omega)]; omega
          have HI := Lib.hid hi
          have HX := Lib.hid hx
          have hi0 : (0 : Int) ≤ (i : Int) := by omega
          have hil : (i : Int) < (xs.length : Int) := by omega
          clear hi hx huu
          go_wp2_with fail
          refine (AM.out k4 3 _ (some ⟨w4.heap.size, 0, none⟩) [0, 99, 100] _ (HL4.out.cur.alloc _) (by omega) rfl (by decide) (by decide) (rd_ints (w := w4) [0, 99, 100] 3) (fun g o q e => by have := HL4.out.cur.lt; injection e with e; injection e with e; omega)).mono ?_
          rintro e w5 ⟨v5, k5, rfl, ⟨z5, -, rfl⟩, hk5, hc, hg⟩
          have HL5 := Lib.hid ((HL4.out.below ((Below.refl _ _).alloc (Nat.le_refl _) _)).call hp hc hg)
          clear hc hg HL4
          have hget : (cellsB xs vs)[i * 2]? = some (.int .i64 x.id) := by
            obtain ⟨uu, hu⟩ : ∃ uu, vs[i]? = some uu := ⟨vs[i]'(by have := HL5.out.own.1; have := HI.out; omega), List.getElem?_eq_getElem _⟩
            exact (cellsB_get HX.out hu).1
          have c5 : w5.cell? ⟨g, i * 2, none⟩ = some (.int .i64 x.id) := by rw [HL5.out.own.2.1.cellAt (i * 2) (by have := (List.getElem?_eq_some_iff.1 hget).1; have := HL5.out.own.2.1.1; omega)]; exact hget
          have f5 := HL5.out.own.2.1.frozenAt (i * 2)
          have HLf := Lib.hid (HL5.out.turn hp (Only.of_grown (grown_cell w5 g (i * 2) (.int .i64 z5))) (fun b hb => by injection hb with hb; have := (HL5.out.own.lt 0 _ g rfl rfl).1; omega) (HL5.out.own.setId rfl HX.out z5))
          clear hget
          go_wp2
          go_ret
          exact ⟨_, _, vs, k5, rfl, by simpa using HLf.out.own, by simp; omega, fun y hy => by
            rcases List.mem_or_eq_of_mem_set hy with hy | hy
            · have := HXW.out y hy; omega
            · subst hy; have := HXW.out x (List.mem_of_getElem? HX.out); show x.ws.length ≤ 13; omega, by omega, HLf.out.cur, HLf.out.gr⟩
        · have hl' : (xs.length : Int) ≤ 0 := by omega
          go_wp2
          go_ret
          exact ⟨_, xs, vs, k4, rfl, HL4.out.own, by omega, fun x hx => by have := HXW.out x hx; omega, by omega, HL4.out.cur, HL4.out.gr⟩
      · by_cases h1 : t4 = 1
        · subst h1
          by_cases hl : 0 < xs.length
          · obtain ⟨i, hi⟩ : ∃ i, xs.length = i + 1 := ⟨xs.length - 1, by omega⟩
            obtain ⟨g, x, uu, rfl, hx, huu⟩ := HROWS.out i hi
            have hl' : (0 : Int) < (xs.length : Int) := by omega
            have hwi : IntKind.i64.wrap ((xs.length : Int) - 1) = (i : Int) := by rw [IntWalk.i64_in _ (by omega)]; omega
            have HI := Lib.hid hi
            have HX := Lib.hid hx
            have HU := Lib.hid huu
            have hi0 : (0 : Int) ≤ (i : Int) := by omega
            have hil : (i : Int) < (xs.length : Int) := by omega
            clear hi hx huu
            go_wp2_with fail
            refine (AM.out k4 2 _ (some ⟨w4.heap.size, 0, none⟩) [9, 61] _ (HL4.out.cur.alloc _) (by omega) rfl (by decide) (by decide) (rd_ints (w := w4) [9, 61] 3) (fun g o q e => by have := HL4.out.cur.lt; injection e with e; injection e with e; omega)).mono ?_
            rintro e w5 ⟨v5, k5, rfl, ⟨z5, -, rfl⟩, hk5, hc, hg⟩
            have HL5 := Lib.hid ((HL4.out.below ((Below.refl _ _).alloc (Nat.le_refl _) _)).call hp hc hg)
            clear hc hg HL4
            have hb6 : Below w5.heap.size w5 (w5.alloc (.cells #[.int .i64 z5] 3)) := (Below.refl _ _).alloc (Nat.le_refl _) _
            have HL6 := Lib.hid (HL5.out.below hb6)
            have hget := (cellsB_get HX.out HU.out).2
            have c6 : (w5.alloc (.cells #[.int .i64 z5] 3)).cell? ⟨g, i * 2 + 1, none⟩ = some uu := by rw [HL6.out.own.2.1.cellAt (i * 2 + 1) (by have := (List.getElem?_eq_some_iff.1 hget).1; have := HL6.out.own.2.1.1; omega)]; exact hget
            have f6 := HL6.out.own.2.1.frozenAt (i * 2 + 1)
            have hlit : (w5.alloc (.cells #[.int .i64 z5] 3)).ownsRow w.heap.size 3 1 (.slice (some ⟨w5.heap.size, 0, none⟩) 1 1) [z5].length (cells1 [z5]) := World.ownsRow_lit w5 _ 1 HL5.out.sz (by unfold maxLen; omega) rfl
            have HLf := Lib.hid (HL6.out.turn hp (Only.of_grown (grown_cell (w5.alloc (.cells #[.int .i64 z5] 3)) g (i * 2 + 1) (.slice (some ⟨w5.heap.size, 0, none⟩) 1 1))) (fun b hb => by injection hb with hb; have := (HL5.out.own.lt 0 _ g rfl rfl).1; omega) (HL5.out.own.setSlice rfl HX.out HU.out hlit (World.grownBy_alloc w5 _ _) (fun k hk => .inr (by simp only [Value.ownBlock, Option.map_some, Option.some.injEq] at hk; omega))))
            clear hget hlit hb6
            go_wp2
            go_ret
            exact ⟨_, _, _, k5, rfl, by simpa using HLf.out.own, by simp; omega, fun y hy => by
              rcases List.mem_or_eq_of_mem_set hy with hy | hy
              · have := HXW.out y hy; omega
              · subst hy; simp, by omega, HLf.out.cur, HLf.out.gr⟩
          · have hl' : (xs.length : Int) ≤ 0 := by omega
            go_wp2
            go_ret
            exact ⟨_, xs, vs, k4, rfl, HL4.out.own, by omega, fun x hx => by have := HXW.out x hx; omega, by omega, HL4.out.cur, HL4.out.gr⟩
        · by_cases h2 : t4 = 2
          · subst h2
            have HE4 := Lib.hid (HL4.out.turn (S := fun _ => False) (ys := []) (vs' := []) hp (Only.of_below ((Below.refl _ _).alloc (Nat.le_refl _) (.cells #[] 34))) (fun b hb => hb.elim) (ownB_empty w4 w.heap.size _ _ HL4.out.sz))
            clear HL4
            go_wp2_with fail
            go_loopw [3, 11] (fun v i wr => ∃ (t : Nat) (ys : List BR) (ws : List Value) (kq : Nat), i = .int .i64 t ∧ ys.length = t ∧ t ≤ 9 ∧ (∀ x ∈ ys, x.ws.length ≤ 3) ∧ kq ≤ k4 + 2 * t ∧ BRel w 34 3 p u ys v ws kq wr) (fun _ i _ => 10 - (intOf i).toNat)
            case atStart => exact ⟨0, [], [], k4, rfl, rfl, by omega, by simp, by omega, HE4.out⟩
            case round =>
              obtain ⟨t, ys, us, kq, rfl, hyt, ht9, hyw, hkq, hY⟩ := hrel
              obtain ⟨A5, c5, rfl⟩ := own_form hY.own.2.1
              have HY := Lib.hid hY
              have HYW := Lib.hid hyw
              have HYT := Lib.hid hyt
              have hy9 : ys.length ≤ 9 := by omega
              clear hY hyw HE4 hyt
              go_wp2_with fail
              refine (PK.out kq 2 _ HY.out.cur (by omega) (by decide) (by decide)).mono ?_
              rintro e w5 ⟨v5, k5, rfl, ⟨r5, rfl, a5, b5⟩, hk5, hc, hg⟩
              have HL5 := Lib.hid (HY.out.call hp hc hg)
              clear hc hg HY
              have hw1 : IntKind.i64.wrap (8 + r5) = 8 + r5 := IntWalk.i64_in _ (by omega)
              by_cases hq : (t : Int) < 8 + r5
              · have ht8 : t ≤ 8 := by omega
                have hw2 : IntKind.i64.wrap ((t : Int) + 1) = (t : Int) + 1 := IntWalk.i64_in _ (by omega)
                have hw3 : IntKind.i64.wrap (10 + (t : Int)) = 10 + (t : Int) := IntWalk.i64_in _ (by omega)
                have hbA : Below w5.heap.size w5 (w5.alloc (.cells #[.int .i64 60, .int .i64 60, .int .i64 (10 + (t : Int))] 3)) := (Below.refl _ _).alloc (Nat.le_refl _) _
                have hbB : Below (w5.alloc (.cells #[.int .i64 60, .int .i64 60, .int .i64 (10 + (t : Int))] 3)).heap.size (w5.alloc (.cells #[.int .i64 60, .int .i64 60, .int .i64 (10 + (t : Int))] 3)) ((w5.alloc (.cells #[.int .i64 60, .int .i64 60, .int .i64 (10 + (t : Int))] 3)).alloc (.cells #[.int .i64 ((t : Int) + 1), .slice (some ⟨w5.heap.size, 0, none⟩) 3 3] 34)) := (Below.refl _ _).alloc (Nat.le_refl _) _
                have hrow0 : (w5.alloc (.cells #[.int .i64 60, .int .i64 60, .int .i64 (10 + (t : Int))] 3)).ownsRow w5.heap.size 3 1 (.slice (some ⟨w5.heap.size, 0, none⟩) 3 3) 3 (cells1 [60, 60, 10 + (t : Int)]) := World.ownsRow_lit w5 _ 3 (Nat.le_refl _) (by unfold maxLen; omega) rfl
                have HRW := Lib.hid (own_below hrow0 hbB)
                have HLa := Lib.hid ((HL5.out.below hbA).below hbB)
                have HROW := Lib.hid HLa.out.own.2.1
                have HXa : Hid (Rd ((w5.alloc (.cells #[.int .i64 60, .int .i64 60, .int .i64 (10 + (t : Int))] 3)).alloc (.cells #[.int .i64 ((t : Int) + 1), .slice (some ⟨w5.heap.size, 0, none⟩) 3 3] 34)) (some ⟨w5.heap.size + 1, 0, none⟩) [.int .i64 ((t : Int) + 1), .slice (some ⟨w5.heap.size, 0, none⟩) 3 3]) := Lib.hid (by
                  have h := rd_new (w := w5.alloc (.cells #[.int .i64 60, .int .i64 60, .int .i64 (10 + (t : Int))] 3)) #[.int .i64 ((t : Int) + 1), .slice (some ⟨w5.heap.size, 0, none⟩) 3 3] 34 rfl
                  rw [World.size_alloc] at h; exact h)
                have hbs : w.heap.size ≤ ((w5.alloc (.cells #[.int .i64 60, .int .i64 60, .int .i64 (10 + (t : Int))] 3)).alloc (.cells #[.int .i64 ((t : Int) + 1), .slice (some ⟨w5.heap.size, 0, none⟩) 3 3] 34)).heap.size := HLa.out.sz
                clear hbA hbB hrow0
                go_wp2_with (at_builtin; go_must (refine wpList_app _ rfl (.tmp 98) (.tmp 105) 24 rfl w.heap.size 34 _ 2 32 Tryz.underlying24 info34 rfl (by omega) _ _ _ rfl HROW.out _ 1 1 [.int .i64 ((t : Int) + 1), .slice (some ⟨w5.heap.size, 0, none⟩) 3 3] rfl rfl HXa.out (by intro u hu; simp at hu; rcases hu with rfl | rfl <;> rfl) (by unfold maxLen; omega) (by omega) hbs ?_); intro v9 w9 o9 g9 d9; refine Hid.out ?_)
                have HLf := Lib.hid (HLa.out.app (x := ⟨(t : Int) + 1, [60, 60, 10 + (t : Int)]⟩) hp HL5.out.sz HRW.out (fun j a q h1 h2 => (HL5.out.own.lt j a q h1 h2).2) o9 g9 d9)
                obtain ⟨A9, cc9, e9⟩ := own_form o9
                subst e9
                clear o9 g9 d9 HLa HROW HXa hbs HRW
                have HMM : Hid (∀ x ∈ ys ++ [(⟨(t : Int) + 1, [60, 60, 10 + (t : Int)]⟩ : BR)], x.ws.length ≤ 3) := Lib.hid (fun x hx => by
                  rcases List.mem_append.1 hx with hx | hx
                  · exact HYW.out x hx
                  · simp at hx; subst hx; simp)
                refine Lib.hid ?_
                go_wp2
                go_roundw
                case rel => exact ⟨t + 1, _, _, k5, by go_num, by have := HYT.out; simp; omega, by omega, HMM.out, by omega, by simpa using HLf.out⟩
                case measure => simp [intOf]; omega
              · have hq' : 8 + r5 ≤ (t : Int) := by omega
                go_wp2
                go_ret
                exact ⟨_, ys, us, k5, rfl, HL5.out.own, by omega, fun x hx => by have := HYW.out x hx; omega, by omega, HL5.out.cur, HL5.out.gr⟩
          · by_cases h3 : t4 = 3
            · subst h3
              have hown := ownB_two w4 w.heap.size 34 3 1 2 60 60 38 36 48 48 48 50 HL4.out.sz
              have hbl : Below w4.heap.size w4 (((w4.alloc (.cells #[.int .i64 60, .int .i64 60, .int .i64 38, .int .i64 36] 3)).alloc (.cells #[.int .i64 48, .int .i64 48, .int .i64 48, .int .i64 50] 3)).alloc (.cells #[.int .i64 1, .slice (some ⟨w4.heap.size, 0, none⟩) 4 4, .int .i64 2, .slice (some ⟨w4.heap.size + 1, 0, none⟩) 4 4] 34)) := (((Below.refl _ _).alloc (Nat.le_refl _) _).alloc (by simp) _).alloc (by simp <;> omega) _
              have HLf := Lib.hid (HL4.out.turn (S := fun _ => False) hp (Only.of_below hbl) (fun b hb => hb.elim) hown)
              clear hown hbl HL4
              go_wp2
              go_ret
              exact ⟨_, _, _, k4, rfl, HLf.out.own, by simp, fun y hy => by
                simp at hy
                rcases hy with rfl | rfl <;> simp, by omega, HLf.out.cur, HLf.out.gr⟩
            · by_cases h4 : t4 = 4
              · subst h4
                have hmk : ∀ (n : Nat) (W : World), n ≤ 13 → (Instr.makeSlice 25 (.int .i64 n) (.int .i64 n)).run Tryz.prog W = .ok (.slice (some ⟨W.heap.size, 0, none⟩) n n) (W.alloc (.cells (madeCells (Value.cells (.int .i64 0)) n) 3)) :=
                  fun n W hn => by
                    have h := run_make_info (P := Tryz.prog) 25 3 _ 1 8 Tryz.underlying25 infoI n (by omega) (by omega) W
                    rw [Nat.mul_one] at h; exact h
                obtain ⟨ar12, har12⟩ : ∃ ar, ar = madeCells (Value.cells (.int .i64 0)) 12 := ⟨_, rfl⟩
                have hm12 : ∀ W, (Instr.makeSlice 25 (.int .i64 12) (.int .i64 12)).run Tryz.prog W = .ok (.slice (some ⟨W.heap.size, 0, none⟩) 12 12) (W.alloc (.cells ar12 3)) := fun W => by rw [har12]; exact hmk 12 W (by omega)
                have HA12 : Hid (ar12.toList = cells1 (List.replicate 12 0)) := Lib.hid (by rw [har12, show Value.cells (.int .i64 0) = #[.int .i64 0] from rfl, toList_madeCells_one]; simp [cells1])
                clear har12
                obtain ⟨ar13, har13⟩ : ∃ ar, ar = madeCells (Value.cells (.int .i64 0)) 13 := ⟨_, rfl⟩
                have hm13 : ∀ W, (Instr.makeSlice 25 (.int .i64 13) (.int .i64 13)).run Tryz.prog W = .ok (.slice (some ⟨W.heap.size, 0, none⟩) 13 13) (W.alloc (.cells ar13 3)) := fun W => by rw [har13]; exact hmk 13 W (by omega)
                have HA13 : Hid (ar13.toList = cells1 (List.replicate 13 0)) := Lib.hid (by rw [har13, show Value.cells (.int .i64 0) = #[.int .i64 0] from rfl, toList_madeCells_one]; simp [cells1])
                clear har13
                clear hmk
                go_wp2_with fail
                refine (PK.out k4 2 _ HL4.out.cur (by omega) (by decide) (by decide)).mono ?_
                rintro e w5 ⟨v5, k5, rfl, ⟨r5, rfl, a5, b5⟩, hk5, hc, hg⟩
                have HL5 := Lib.hid (HL4.out.call hp hc hg)
                clear hc hg HL4
                by_cases h5 : r5 = 0
                · subst h5
                  obtain ⟨wq, hwq⟩ : ∃ wq, wq = ((w5.alloc (.cells ar12 3)).alloc (.cells #[.int .i64 7, .slice (some ⟨w5.heap.size, 0, none⟩) 12 12] 34)) := ⟨_, rfl⟩
                  have HLf : Hid (BRel w 34 3 p u [⟨7, List.replicate 12 0⟩] (.slice (some ⟨w5.heap.size + 1, 0, none⟩) 1 1) [.slice (some ⟨w5.heap.size, 0, none⟩) 12 12] k5 wq) := Lib.hid (by
                    rw [hwq]
                    exact HL5.out.turn (S := fun _ => False) hp (Only.of_below (((Below.refl _ _).alloc (Nat.le_refl _) _).alloc (by simp) _)) (fun b hb => hb.elim) (ownB_one w5 w.heap.size 34 3 7 12 ar12 _ HA12.out (by simp) HL5.out.sz (by unfold maxLen; omega)))
                  have HWQ := Lib.hid hwq
                  have hs5 := HL5.out.sz
                  clear HL5 hwq
                  go_wp2_with fail
                  rw [← HWQ.out]
                  go_loopw [12] (fun i wr => ∃ (t : Nat) (ws : List Int), i = .int .i64 t ∧ t ≤ 12 ∧ ws.length = 12 ∧ BRel w 34 3 p u [⟨7, ws⟩] (.slice (some ⟨w5.heap.size + 1, 0, none⟩) 1 1) [.slice (some ⟨w5.heap.size, 0, none⟩) 12 12] k5 wr) (fun i _ => 12 - (intOf i).toNat)
                  case atStart => exact ⟨0, _, rfl, by omega, by simp, HLf.out⟩
                  case round =>
                    obtain ⟨t, ws, rfl, ht, hwl, hY⟩ := hrel
                    have HY := Lib.hid hY
                    have HWL := Lib.hid hwl
                    have cA : wr.cell? ⟨w5.heap.size + 1, 1, none⟩ = some (.slice (some ⟨w5.heap.size, 0, none⟩) 12 12) := by rw [hY.own.2.1.cellAt 1 (by simp)]; rfl
                    have hin : wr.ownsRow w.heap.size 3 1 (.slice (some ⟨w5.heap.size, 0, none⟩) 12 12) 12 (cells1 ws) := by have h : wr.ownsRow w.heap.size 3 1 (.slice (some ⟨w5.heap.size, 0, none⟩) 12 12) ws.length (cells1 ws) := hY.own.2.2.1 0 _ _ rfl rfl; rw [hwl] at h; exact h
                    clear hY hwl HLf
                    by_cases htl : t < 12
                    · have htl' : (t : Int) < 12 := by omega
                      have ht0 : (0 : Int) ≤ (t : Int) := by omega
                      obtain ⟨y, hy⟩ : ∃ y, ws[t]? = some y := ⟨ws[t]'(by have := HWL.out; omega), List.getElem?_eq_getElem _⟩
                      have cB : wr.cell? ⟨w5.heap.size, t, none⟩ = some (.int .i64 y) := by
                        rw [hin.cellAt t (by omega)]; simp [cells1, hy]
                      have fB := hin.frozenAt t
                      have hst := hin.stored t (.int .i64 14)
                      have hst1 : (wr.setCell ⟨w5.heap.size, t, none⟩ (.int .i64 14)).ownsRow w.heap.size 3 1 (.slice (some ⟨w5.heap.size, 0, none⟩) 12 12) (ws.set t 14).length (cells1 (ws.set t 14)) := by
                        have e : (cells1 ws).set t (.int .i64 14) = cells1 (ws.set t 14) := by simp [cells1, List.map_set]
                        rw [← e, List.length_set, HWL.out]; exact hst.1
                      have HLg := Lib.hid (HY.out.turn hp (Only.of_grown hst.2) (fun b hb => by injection hb with hb; omega) (HY.out.own.inner (i := 0) (ws := ws.set t 14) rfl rfl hst1 hst.2))
                      clear hst hst1 hin hy
                      go_wp2
                      go_roundw
                      case rel => exact ⟨t + 1, ws.set t 14, by go_num, by omega, by rw [List.length_set]; exact HWL.out, by simpa using HLg.out⟩
                      case measure => simp [intOf]; omega
                    · have htl' : (12 : Int) ≤ (t : Int) := by omega
                      clear hin
                      go_wp2
                      go_ret
                      exact ⟨_, _, _, k5, rfl, HY.out.own, by simp, fun y hy => by simp at hy; subst hy; have := HWL.out; show ws.length ≤ 13; omega, by omega, HY.out.cur, HY.out.gr⟩
                · have h51 : r5 = 1 := by omega
                  subst h51
                  obtain ⟨wq, hwq⟩ : ∃ wq, wq = ((w5.alloc (.cells ar13 3)).alloc (.cells #[.int .i64 7, .slice (some ⟨w5.heap.size, 0, none⟩) 13 13] 34)) := ⟨_, rfl⟩
                  have HLf : Hid (BRel w 34 3 p u [⟨7, List.replicate 13 0⟩] (.slice (some ⟨w5.heap.size + 1, 0, none⟩) 1 1) [.slice (some ⟨w5.heap.size, 0, none⟩) 13 13] k5 wq) := Lib.hid (by
                    rw [hwq]
                    exact HL5.out.turn (S := fun _ => False) hp (Only.of_below (((Below.refl _ _).alloc (Nat.le_refl _) _).alloc (by simp) _)) (fun b hb => hb.elim) (ownB_one w5 w.heap.size 34 3 7 13 ar13 _ HA13.out (by simp) HL5.out.sz (by unfold maxLen; omega)))
                  have HWQ := Lib.hid hwq
                  have hs5 := HL5.out.sz
                  clear HL5 hwq
                  go_wp2_with fail
                  rw [← HWQ.out]
                  go_loopw [12] (fun i wr => ∃ (t : Nat) (ws : List Int), i = .int .i64 t ∧ t ≤ 13 ∧ ws.length = 13 ∧ BRel w 34 3 p u [⟨7, ws⟩] (.slice (some ⟨w5.heap.size + 1, 0, none⟩) 1 1) [.slice (some ⟨w5.heap.size, 0, none⟩) 13 13] k5 wr) (fun i _ => 13 - (intOf i).toNat)
                  case atStart => exact ⟨0, _, rfl, by omega, by simp, HLf.out⟩
                  case round =>
                    obtain ⟨t, ws, rfl, ht, hwl, hY⟩ := hrel
                    have HY := Lib.hid hY
                    have HWL := Lib.hid hwl
                    have cA : wr.cell? ⟨w5.heap.size + 1, 1, none⟩ = some (.slice (some ⟨w5.heap.size, 0, none⟩) 13 13) := by rw [hY.own.2.1.cellAt 1 (by simp)]; rfl
                    have hin : wr.ownsRow w.heap.size 3 1 (.slice (some ⟨w5.heap.size, 0, none⟩) 13 13) 13 (cells1 ws) := by have h : wr.ownsRow w.heap.size 3 1 (.slice (some ⟨w5.heap.size, 0, none⟩) 13 13) ws.length (cells1 ws) := hY.own.2.2.1 0 _ _ rfl rfl; rw [hwl] at h; exact h
                    clear hY hwl HLf
                    by_cases htl : t < 13
                    · have htl' : (t : Int) < 13 := by omega
                      have ht0 : (0 : Int) ≤ (t : Int) := by omega
                      obtain ⟨y, hy⟩ : ∃ y, ws[t]? = some y := ⟨ws[t]'(by have := HWL.out; omega), List.getElem?_eq_getElem _⟩
                      have cB : wr.cell? ⟨w5.heap.size, t, none⟩ = some (.int .i64 y) := by
                        rw [hin.cellAt t (by omega)]; simp [cells1, hy]
                      have fB := hin.frozenAt t
                      have hst := hin.stored t (.int .i64 14)
                      have hst1 : (wr.setCell ⟨w5.heap.size, t, none⟩ (.int .i64 14)).ownsRow w.heap.size 3 1 (.slice (some ⟨w5.heap.size, 0, none⟩) 13 13) (ws.set t 14).length (cells1 (ws.set t 14)) := by
                        have e : (cells1 ws).set t (.int .i64 14) = cells1 (ws.set t 14) := by simp [cells1, List.map_set]
                        rw [← e, List.length_set, HWL.out]; exact hst.1
                      have HLg := Lib.hid (HY.out.turn hp (Only.of_grown hst.2) (fun b hb => by injection hb with hb; omega) (HY.out.own.inner (i := 0) (ws := ws.set t 14) rfl rfl hst1 hst.2))
                      clear hst hst1 hin hy
                      go_wp2
                      go_roundw
                      case rel => exact ⟨t + 1, ws.set t 14, by go_num, by omega, by rw [List.length_set]; exact HWL.out, by simpa using HLg.out⟩
                      case measure => simp [intOf]; omega
                    · have htl' : (13 : Int) ≤ (t : Int) := by omega
                      clear hin
                      go_wp2
                      go_ret
                      exact ⟨_, _, _, k5, rfl, HY.out.own, by simp, fun y hy => by simp at hy; subst hy; have := HWL.out; show ws.length ≤ 13; omega, by omega, HY.out.cur, HY.out.gr⟩
              · have q0 : ((t4 : Int) == 0) = false := by simp; omega
                have q1 : ((t4 : Int) == 1) = false := by simp; omega
                have q2 : ((t4 : Int) == 2) = false := by simp; omega
                have q3 : ((t4 : Int) == 3) = false := by simp; omega
                have q4 : ((t4 : Int) == 4) = false := by simp; omega
                go_wp2
                go_ret
                exact ⟨_, xs, vs, k4, rfl, HL4.out.own, by omega, fun x hx => by have := HXW.out x hx; omega, by omega, HL4.out.cur, HL4.out.gr⟩
end Go.Proofs.YtacacibpehnmgaaGreatDoor
