/- What the law on books draws. -/
import Derived.Test.YtacacibpehnmgaaDrB3
namespace Go.Proofs.Ytacacibpehnmgaa
set_option linter.unusedVariables false
set_option linter.unusedSimpArgs false
open Go.RowKit

def RetB2 (W : World) : Ending → World → Prop := fun e w' => ∃ v xs a, e = .returned (.tuple #[v, .int .i64 a]) ∧ LstB w' v xs ∧ Below W.heap.size W w'
def RetB3 (W : World) : Ending → World → Prop := fun e w' => ∃ v xs a b, e = .returned (.tuple #[v, .int .i64 a, .int .i64 b]) ∧ LstB w' v xs ∧ Below W.heap.size W w'
def RetB4 (W : World) : Ending → World → Prop := fun e w' => ∃ v xs a b d, e = .returned (.tuple #[v, .int .i64 a, .int .i64 b, .int .i64 d]) ∧ LstB w' v xs ∧ Below W.heap.size W w'
theorem rd_takeI {w : World} {A : Option Addr} {xs : List Int} (h : Rd w A (cells1 xs)) (k : Nat) : Rd w A (cells1 (xs.take k)) := by
  rcases h with h | ⟨g, o, e, hg, hc⟩
  · left; have : xs = [] := by simpa [cells1] using h
    subst this; simp [cells1]
  · refine .inr ⟨g, o, e, hg, fun q x hx => hc q x ?_⟩
    simp only [cells1, List.getElem?_map, List.getElem?_take] at hx ⊢
    split at hx
    · exact hx
    · simp at hx

set_option maxRecDepth 20000 in
set_option maxHeartbeats 4000000 in
theorem drawRestOf_any (B : Option Addr) (n c : Nat) (zs : List Int) (w : World) (hn : zs.length = n) (hB : Bytes w B zs) :
    Calls Try.prog 40 #[.slice B n c] w (RetB2 w) := by
  subst hn
  have HC0 := Lib.hid (CurB.new hB c 47)
  obtain ⟨u, hu⟩ : ∃ u : Cu, u = ⟨B, c, zs⟩ := ⟨_, rfl⟩
  rw [← hu] at HC0
  clear hu hB
  obtain ⟨p, hp⟩ : ∃ p, p = w.heap.size := ⟨_, rfl⟩
  have HP := Lib.hid hp
  have BK := Lib.hid (fun k w h hk => book27_any p k u w h hk)
  have BI := Lib.hid (fun k w A n c xs hn hx hA hf h hk => bookId_any p k u w A n c xs hn hx hA hf h hk)
  have AM := Lib.hid (fun k n c A zs w h hk hz hn hn2 hA hf => among_any p k n c u A zs w h hk hz hn hn2 hA hf)
  have PK := Lib.hid (fun k m w h hk hm hm2 => pick_any p k m u w h hk hm hm2)
  have HC1 : Hid (CurB (w.alloc (.cells #[.slice B zs.length c, .int .i64 0, .int .u64 0] 47)) p u 0) := Lib.hid (by rw [hp]; exact HC0.out)
  have HBW : Hid (w.grownBy (w.alloc (.cells #[.slice B zs.length c, .int .i64 0, .int .u64 0] 47)) (some p)) := Lib.hid (World.grownBy_alloc w _ _)
  have hp1 : p < (w.alloc (.cells #[.slice B zs.length c, .int .i64 0, .int .u64 0] 47)).heap.size := by rw [hp]; simp
  clear HC0 hp
  go_enter Try.func40, Try.ntmps40
  go_wp2_with fail
  rw [← HP.out]
  refine (BK.out 0 _ HC1.out (by omega)).mono ?_
  rintro e w1 ⟨v1, xs, vs, k1, rfl, o1, hx, hxw, hk1, hc, hg⟩
  have HL1 := Lib.hid (show BRel (w.alloc (.cells #[.slice B zs.length c, .int .i64 0, .int .u64 0] 47)) 55 3 p u xs v1 vs k1 w1 from ⟨o1, hc, hg⟩)
  obtain ⟨A, ca, rfl⟩ := own_form o1.2.1
  have HXW := Lib.hid hxw
  have hs1 := HL1.out.sz
  clear o1 hc hg HC1 hxw
  go_wp2_with fail
  refine (BI.out k1 _ A xs.length ca xs rfl hx HL1.out.own.rd2 (fun g o q e => by subst e; have := (HL1.out.own.lt 0 _ g rfl rfl).1; omega) HL1.out.cur (by omega)).mono ?_
  rintro e w2 ⟨v2, k2, rfl, ⟨z2, rfl⟩, hk2, hc, hg⟩
  have HL2 := Lib.hid (HL1.out.call hp1 hc hg)
  have hs2 := HL2.out.sz
  clear hc hg HL1
  go_wp2
  refine bodyPost_ret (v := .tuple #[.slice A xs.length ca, .int .i64 z2]) (by simp [results, Try.results40, go_sem]) rfl ?_
  exact ⟨_, xs, z2, rfl, LstB.of HL2.out.own hx HXW.out, (Below.refl _ _).grown (grown_trans HBW.out HL2.out.gr) (Nat.le_refl _) (fun k hk => by injection hk with hk; have := HP.out; omega)⟩

set_option maxRecDepth 20000 in
set_option maxHeartbeats 4000000 in
theorem drawRemoveStamp_any (B : Option Addr) (n c : Nat) (zs : List Int) (w : World) (hn : zs.length = n) (hB : Bytes w B zs) :
    Calls Try.prog 16 #[.slice B n c] w (RetB3 w) := by
  subst hn
  have HC0 := Lib.hid (CurB.new hB c 47)
  obtain ⟨u, hu⟩ : ∃ u : Cu, u = ⟨B, c, zs⟩ := ⟨_, rfl⟩
  rw [← hu] at HC0
  clear hu hB
  obtain ⟨p, hp⟩ : ∃ p, p = w.heap.size := ⟨_, rfl⟩
  have HP := Lib.hid hp
  have BK := Lib.hid (fun k w h hk => book27_any p k u w h hk)
  have BI := Lib.hid (fun k w A n c xs hn hx hA hf h hk => bookId_any p k u w A n c xs hn hx hA hf h hk)
  have AM := Lib.hid (fun k n c A zs w h hk hz hn hn2 hA hf => among_any p k n c u A zs w h hk hz hn hn2 hA hf)
  have PK := Lib.hid (fun k m w h hk hm hm2 => pick_any p k m u w h hk hm hm2)
  have HC1 : Hid (CurB (w.alloc (.cells #[.slice B zs.length c, .int .i64 0, .int .u64 0] 47)) p u 0) := Lib.hid (by rw [hp]; exact HC0.out)
  have HBW : Hid (w.grownBy (w.alloc (.cells #[.slice B zs.length c, .int .i64 0, .int .u64 0] 47)) (some p)) := Lib.hid (World.grownBy_alloc w _ _)
  have hp1 : p < (w.alloc (.cells #[.slice B zs.length c, .int .i64 0, .int .u64 0] 47)).heap.size := by rw [hp]; simp
  clear HC0 hp
  go_enter Try.func16, Try.ntmps16
  go_wp2_with fail
  rw [← HP.out]
  refine (BK.out 0 _ HC1.out (by omega)).mono ?_
  rintro e w1 ⟨v1, xs, vs, k1, rfl, o1, hx, hxw, hk1, hc, hg⟩
  have HL1 := Lib.hid (show BRel (w.alloc (.cells #[.slice B zs.length c, .int .i64 0, .int .u64 0] 47)) 55 3 p u xs v1 vs k1 w1 from ⟨o1, hc, hg⟩)
  obtain ⟨A, ca, rfl⟩ := own_form o1.2.1
  have HXW := Lib.hid hxw
  have hs1 := HL1.out.sz
  clear o1 hc hg HC1 hxw
  go_wp2_with fail
  refine (BI.out k1 _ A xs.length ca xs rfl hx HL1.out.own.rd2 (fun g o q e => by subst e; have := (HL1.out.own.lt 0 _ g rfl rfl).1; omega) HL1.out.cur (by omega)).mono ?_
  rintro e w2 ⟨v2, k2, rfl, ⟨z2, rfl⟩, hk2, hc, hg⟩
  have HL2 := Lib.hid (HL1.out.call hp1 hc hg)
  have hs2 := HL2.out.sz
  clear hc hg HL1
  go_wp2_with fail
  refine (PK.out k2 24 _ (HL2.out.cur.alloc _) (by omega) (by decide) (by decide)).mono ?_
  rintro e w3 ⟨v3, k3, rfl, ⟨r3, rfl, a3, b3⟩, hk3, hc, hg⟩
  have HL3 := Lib.hid ((HL2.out.below ((Below.refl _ _).alloc (Nat.le_refl _) _)).call hp1 hc hg)
  have RD3 : Hid (Rd w3 (some ⟨w2.heap.size, 0, none⟩) (cells1 [0, 0, 1, 2, 5, -1, 12])) := Lib.hid (Rd.grown hg (rd_ints (w := w2) [0, 0, 1, 2, 5, -1, 12] 3) (fun g o q e => by injection e with e; injection e with e e2 e3; intro e4; injection e4 with e4; omega))
  obtain ⟨q3, hq3, hq23⟩ : ∃ q : Nat, r3.tdiv 11 = (q : Int) ∧ q ≤ 2 := ⟨(r3.tdiv 11).toNat, by rw [Int.toNat_of_nonneg]; rw [Int.tdiv_eq_ediv_of_nonneg (by omega)]; omega, by rw [Int.tdiv_eq_ediv_of_nonneg (by omega)]; omega⟩
  obtain ⟨m3, hm3⟩ : ∃ m, m = 5 + q3 := ⟨_, rfl⟩
  have hwq3 : IntKind.i64.wrap (q3 : Int) = (q3 : Int) := IntWalk.i64_in _ (by omega)
  have hwm3 : IntKind.i64.wrap (5 + (q3 : Int)) = (m3 : Int) := by rw [IntWalk.i64_in _ (by omega)]; omega
  have hma3 : 1 ≤ m3 := by omega
  have hmb3 : m3 ≤ 7 := by omega
  have hm03 : (0 : Int) ≤ (m3 : Int) := by omega
  have hmc3 : (m3 : Int) ≤ 7 := by omega
  have hsz3 : w2.heap.size ≤ w3.heap.size := by have := hg.size; simp at this; omega
  clear hc hg HL2 hm3 a3 b3
  go_wp2_with fail
  refine (AM.out k3 m3 _ (some ⟨w2.heap.size, 0, none⟩) ([0, 0, 1, 2, 5, -1, 12].take m3) _ HL3.out.cur (by omega) (by simp; omega) (by omega) (by omega) (rd_takeI RD3.out m3) (fun g o q e => by injection e with e; injection e with e e2 e3; omega)).mono ?_
  rintro e w4 ⟨v4, k4, rfl, ⟨z4, -, rfl⟩, hk4, hc, hg⟩
  have HL4 := Lib.hid (HL3.out.call hp1 hc hg)
  have hs4 := HL4.out.sz
  clear hc hg HL3 RD3
  go_wp2
  refine bodyPost_ret (v := .tuple #[.slice A xs.length ca, .int .i64 z2, .int .i64 z4]) (by simp [results, Try.results16, go_sem]) rfl ?_
  exact ⟨_, xs, z2, z4, rfl, LstB.of HL4.out.own hx HXW.out, (Below.refl _ _).grown (grown_trans HBW.out HL4.out.gr) (Nat.le_refl _) (fun k hk => by injection hk with hk; have := HP.out; omega)⟩

set_option maxRecDepth 20000 in
set_option maxHeartbeats 4000000 in
theorem drawStampAt_any (B : Option Addr) (n c : Nat) (zs : List Int) (w : World) (hn : zs.length = n) (hB : Bytes w B zs) :
    Calls Try.prog 18 #[.slice B n c] w (RetB3 w) := by
  subst hn
  have HC0 := Lib.hid (CurB.new hB c 47)
  obtain ⟨u, hu⟩ : ∃ u : Cu, u = ⟨B, c, zs⟩ := ⟨_, rfl⟩
  rw [← hu] at HC0
  clear hu hB
  obtain ⟨p, hp⟩ : ∃ p, p = w.heap.size := ⟨_, rfl⟩
  have HP := Lib.hid hp
  have BK := Lib.hid (fun k w h hk => book27_any p k u w h hk)
  have BI := Lib.hid (fun k w A n c xs hn hx hA hf h hk => bookId_any p k u w A n c xs hn hx hA hf h hk)
  have AM := Lib.hid (fun k n c A zs w h hk hz hn hn2 hA hf => among_any p k n c u A zs w h hk hz hn hn2 hA hf)
  have PK := Lib.hid (fun k m w h hk hm hm2 => pick_any p k m u w h hk hm hm2)
  have HC1 : Hid (CurB (w.alloc (.cells #[.slice B zs.length c, .int .i64 0, .int .u64 0] 47)) p u 0) := Lib.hid (by rw [hp]; exact HC0.out)
  have HBW : Hid (w.grownBy (w.alloc (.cells #[.slice B zs.length c, .int .i64 0, .int .u64 0] 47)) (some p)) := Lib.hid (World.grownBy_alloc w _ _)
  have hp1 : p < (w.alloc (.cells #[.slice B zs.length c, .int .i64 0, .int .u64 0] 47)).heap.size := by rw [hp]; simp
  clear HC0 hp
  go_enter Try.func18, Try.ntmps18
  go_wp2_with fail
  rw [← HP.out]
  refine (BK.out 0 _ HC1.out (by omega)).mono ?_
  rintro e w1 ⟨v1, xs, vs, k1, rfl, o1, hx, hxw, hk1, hc, hg⟩
  have HL1 := Lib.hid (show BRel (w.alloc (.cells #[.slice B zs.length c, .int .i64 0, .int .u64 0] 47)) 55 3 p u xs v1 vs k1 w1 from ⟨o1, hc, hg⟩)
  obtain ⟨A, ca, rfl⟩ := own_form o1.2.1
  have HXW := Lib.hid hxw
  have hs1 := HL1.out.sz
  clear o1 hc hg HC1 hxw
  go_wp2_with fail
  refine (BI.out k1 _ A xs.length ca xs rfl hx HL1.out.own.rd2 (fun g o q e => by subst e; have := (HL1.out.own.lt 0 _ g rfl rfl).1; omega) HL1.out.cur (by omega)).mono ?_
  rintro e w2 ⟨v2, k2, rfl, ⟨z2, rfl⟩, hk2, hc, hg⟩
  have HL2 := Lib.hid (HL1.out.call hp1 hc hg)
  have hs2 := HL2.out.sz
  clear hc hg HL1
  go_wp2_with fail
  refine (PK.out k2 24 _ (HL2.out.cur.alloc _) (by omega) (by decide) (by decide)).mono ?_
  rintro e w3 ⟨v3, k3, rfl, ⟨r3, rfl, a3, b3⟩, hk3, hc, hg⟩
  have HL3 := Lib.hid ((HL2.out.below ((Below.refl _ _).alloc (Nat.le_refl _) _)).call hp1 hc hg)
  have RD3 : Hid (Rd w3 (some ⟨w2.heap.size, 0, none⟩) (cells1 [0, 9, 10, 11, 20, 22, 60, 61, 62, 199, -1, 200])) := Lib.hid (Rd.grown hg (rd_ints (w := w2) [0, 9, 10, 11, 20, 22, 60, 61, 62, 199, -1, 200] 3) (fun g o q e => by injection e with e; injection e with e e2 e3; intro e4; injection e4 with e4; omega))
  obtain ⟨q3, hq3, hq23⟩ : ∃ q : Nat, r3.tdiv 11 = (q : Int) ∧ q ≤ 2 := ⟨(r3.tdiv 11).toNat, by rw [Int.toNat_of_nonneg]; rw [Int.tdiv_eq_ediv_of_nonneg (by omega)]; omega, by rw [Int.tdiv_eq_ediv_of_nonneg (by omega)]; omega⟩
  obtain ⟨m3, hm3⟩ : ∃ m, m = 10 + q3 := ⟨_, rfl⟩
  have hwq3 : IntKind.i64.wrap (q3 : Int) = (q3 : Int) := IntWalk.i64_in _ (by omega)
  have hwm3 : IntKind.i64.wrap (10 + (q3 : Int)) = (m3 : Int) := by rw [IntWalk.i64_in _ (by omega)]; omega
  have hma3 : 1 ≤ m3 := by omega
  have hmb3 : m3 ≤ 12 := by omega
  have hm03 : (0 : Int) ≤ (m3 : Int) := by omega
  have hmc3 : (m3 : Int) ≤ 12 := by omega
  have hsz3 : w2.heap.size ≤ w3.heap.size := by have := hg.size; simp at this; omega
  clear hc hg HL2 hm3 a3 b3
  go_wp2_with fail
  refine (AM.out k3 m3 _ (some ⟨w2.heap.size, 0, none⟩) ([0, 9, 10, 11, 20, 22, 60, 61, 62, 199, -1, 200].take m3) _ HL3.out.cur (by omega) (by simp; omega) (by omega) (by omega) (rd_takeI RD3.out m3) (fun g o q e => by injection e with e; injection e with e e2 e3; omega)).mono ?_
  rintro e w4 ⟨v4, k4, rfl, ⟨z4, -, rfl⟩, hk4, hc, hg⟩
  have HL4 := Lib.hid (HL3.out.call hp1 hc hg)
  have hs4 := HL4.out.sz
  clear hc hg HL3 RD3
  go_wp2
  refine bodyPost_ret (v := .tuple #[.slice A xs.length ca, .int .i64 z2, .int .i64 z4]) (by simp [results, Try.results18, go_sem]) rfl ?_
  exact ⟨_, xs, z2, z4, rfl, LstB.of HL4.out.own hx HXW.out, (Below.refl _ _).grown (grown_trans HBW.out HL4.out.gr) (Nat.le_refl _) (fun k hk => by injection hk with hk; have := HP.out; omega)⟩

set_option maxRecDepth 20000 in
set_option maxHeartbeats 4000000 in
theorem drawInsertStamp_any (B : Option Addr) (n c : Nat) (zs : List Int) (w : World) (hn : zs.length = n) (hB : Bytes w B zs) :
    Calls Try.prog 5 #[.slice B n c] w (RetB4 w) := by
  subst hn
  have HC0 := Lib.hid (CurB.new hB c 47)
  obtain ⟨u, hu⟩ : ∃ u : Cu, u = ⟨B, c, zs⟩ := ⟨_, rfl⟩
  rw [← hu] at HC0
  clear hu hB
  obtain ⟨p, hp⟩ : ∃ p, p = w.heap.size := ⟨_, rfl⟩
  have HP := Lib.hid hp
  have BK := Lib.hid (fun k w h hk => book27_any p k u w h hk)
  have BI := Lib.hid (fun k w A n c xs hn hx hA hf h hk => bookId_any p k u w A n c xs hn hx hA hf h hk)
  have AM := Lib.hid (fun k n c A zs w h hk hz hn hn2 hA hf => among_any p k n c u A zs w h hk hz hn hn2 hA hf)
  have PK := Lib.hid (fun k m w h hk hm hm2 => pick_any p k m u w h hk hm hm2)
  have HC1 : Hid (CurB (w.alloc (.cells #[.slice B zs.length c, .int .i64 0, .int .u64 0] 47)) p u 0) := Lib.hid (by rw [hp]; exact HC0.out)
  have HBW : Hid (w.grownBy (w.alloc (.cells #[.slice B zs.length c, .int .i64 0, .int .u64 0] 47)) (some p)) := Lib.hid (World.grownBy_alloc w _ _)
  have hp1 : p < (w.alloc (.cells #[.slice B zs.length c, .int .i64 0, .int .u64 0] 47)).heap.size := by rw [hp]; simp
  clear HC0 hp
  go_enter Try.func5, Try.ntmps5
  go_wp2_with fail
  rw [← HP.out]
  refine (BK.out 0 _ HC1.out (by omega)).mono ?_
  rintro e w1 ⟨v1, xs, vs, k1, rfl, o1, hx, hxw, hk1, hc, hg⟩
  have HL1 := Lib.hid (show BRel (w.alloc (.cells #[.slice B zs.length c, .int .i64 0, .int .u64 0] 47)) 55 3 p u xs v1 vs k1 w1 from ⟨o1, hc, hg⟩)
  obtain ⟨A, ca, rfl⟩ := own_form o1.2.1
  have HXW := Lib.hid hxw
  have hs1 := HL1.out.sz
  clear o1 hc hg HC1 hxw
  go_wp2_with fail
  refine (BI.out k1 _ A xs.length ca xs rfl hx HL1.out.own.rd2 (fun g o q e => by subst e; have := (HL1.out.own.lt 0 _ g rfl rfl).1; omega) HL1.out.cur (by omega)).mono ?_
  rintro e w2 ⟨v2, k2, rfl, ⟨z2, rfl⟩, hk2, hc, hg⟩
  have HL2 := Lib.hid (HL1.out.call hp1 hc hg)
  have hs2 := HL2.out.sz
  clear hc hg HL1
  go_wp2_with fail
  refine (PK.out k2 24 _ (HL2.out.cur.alloc _) (by omega) (by decide) (by decide)).mono ?_
  rintro e w3 ⟨v3, k3, rfl, ⟨r3, rfl, a3, b3⟩, hk3, hc, hg⟩
  have HL3 := Lib.hid ((HL2.out.below ((Below.refl _ _).alloc (Nat.le_refl _) _)).call hp1 hc hg)
  have RD3 : Hid (Rd w3 (some ⟨w2.heap.size, 0, none⟩) (cells1 [0, 0, 1, 2, 5, -1, 13])) := Lib.hid (Rd.grown hg (rd_ints (w := w2) [0, 0, 1, 2, 5, -1, 13] 3) (fun g o q e => by injection e with e; injection e with e e2 e3; intro e4; injection e4 with e4; omega))
  obtain ⟨q3, hq3, hq23⟩ : ∃ q : Nat, r3.tdiv 11 = (q : Int) ∧ q ≤ 2 := ⟨(r3.tdiv 11).toNat, by rw [Int.toNat_of_nonneg]; rw [Int.tdiv_eq_ediv_of_nonneg (by omega)]; omega, by rw [Int.tdiv_eq_ediv_of_nonneg (by omega)]; omega⟩
  obtain ⟨m3, hm3⟩ : ∃ m, m = 5 + q3 := ⟨_, rfl⟩
  have hwq3 : IntKind.i64.wrap (q3 : Int) = (q3 : Int) := IntWalk.i64_in _ (by omega)
  have hwm3 : IntKind.i64.wrap (5 + (q3 : Int)) = (m3 : Int) := by rw [IntWalk.i64_in _ (by omega)]; omega
  have hma3 : 1 ≤ m3 := by omega
  have hmb3 : m3 ≤ 7 := by omega
  have hm03 : (0 : Int) ≤ (m3 : Int) := by omega
  have hmc3 : (m3 : Int) ≤ 7 := by omega
  have hsz3 : w2.heap.size ≤ w3.heap.size := by have := hg.size; simp at this; omega
  clear hc hg HL2 hm3 a3 b3
  go_wp2_with fail
  refine (AM.out k3 m3 _ (some ⟨w2.heap.size, 0, none⟩) ([0, 0, 1, 2, 5, -1, 13].take m3) _ HL3.out.cur (by omega) (by simp; omega) (by omega) (by omega) (rd_takeI RD3.out m3) (fun g o q e => by injection e with e; injection e with e e2 e3; omega)).mono ?_
  rintro e w4 ⟨v4, k4, rfl, ⟨z4, -, rfl⟩, hk4, hc, hg⟩
  have HL4 := Lib.hid (HL3.out.call hp1 hc hg)
  have hs4 := HL4.out.sz
  clear hc hg HL3 RD3
  go_wp2_with fail
  refine (PK.out k4 24 _ (HL4.out.cur.alloc _) (by omega) (by decide) (by decide)).mono ?_
  rintro e w5 ⟨v5, k5, rfl, ⟨r5, rfl, a5, b5⟩, hk5, hc, hg⟩
  have HL5 := Lib.hid ((HL4.out.below ((Below.refl _ _).alloc (Nat.le_refl _) _)).call hp1 hc hg)
  have RD5 : Hid (Rd w5 (some ⟨w4.heap.size, 0, none⟩) (cells1 [10, 20, 39, 60, 9, 61])) := Lib.hid (Rd.grown hg (rd_ints (w := w4) [10, 20, 39, 60, 9, 61] 3) (fun g o q e => by injection e with e; injection e with e e2 e3; intro e4; injection e4 with e4; omega))
  obtain ⟨q5, hq5, hq25⟩ : ∃ q : Nat, r5.tdiv 11 = (q : Int) ∧ q ≤ 2 := ⟨(r5.tdiv 11).toNat, by rw [Int.toNat_of_nonneg]; rw [Int.tdiv_eq_ediv_of_nonneg (by omega)]; omega, by rw [Int.tdiv_eq_ediv_of_nonneg (by omega)]; omega⟩
  obtain ⟨m5, hm5⟩ : ∃ m, m = 4 + q5 := ⟨_, rfl⟩
  have hwq5 : IntKind.i64.wrap (q5 : Int) = (q5 : Int) := IntWalk.i64_in _ (by omega)
  have hwm5 : IntKind.i64.wrap (4 + (q5 : Int)) = (m5 : Int) := by rw [IntWalk.i64_in _ (by omega)]; omega
  have hma5 : 1 ≤ m5 := by omega
  have hmb5 : m5 ≤ 6 := by omega
  have hm05 : (0 : Int) ≤ (m5 : Int) := by omega
  have hmc5 : (m5 : Int) ≤ 6 := by omega
  have hsz5 : w4.heap.size ≤ w5.heap.size := by have := hg.size; simp at this; omega
  clear hc hg HL4 hm5 a5 b5
  go_wp2_with fail
  refine (AM.out k5 m5 _ (some ⟨w4.heap.size, 0, none⟩) ([10, 20, 39, 60, 9, 61].take m5) _ HL5.out.cur (by omega) (by simp; omega) (by omega) (by omega) (rd_takeI RD5.out m5) (fun g o q e => by injection e with e; injection e with e e2 e3; omega)).mono ?_
  rintro e w6 ⟨v6, k6, rfl, ⟨z6, -, rfl⟩, hk6, hc, hg⟩
  have HL6 := Lib.hid (HL5.out.call hp1 hc hg)
  have hs6 := HL6.out.sz
  clear hc hg HL5 RD5
  go_wp2
  refine bodyPost_ret (v := .tuple #[.slice A xs.length ca, .int .i64 z2, .int .i64 z4, .int .i64 z6]) (by simp [results, Try.results5, go_sem]) rfl ?_
  exact ⟨_, xs, z2, z4, z6, rfl, LstB.of HL6.out.own hx HXW.out, (Below.refl _ _).grown (grown_trans HBW.out HL6.out.gr) (Nat.le_refl _) (fun k hk => by injection hk with hk; have := HP.out; omega)⟩

set_option maxHeartbeats 2000000 in
theorem drawStartsOf_any (B : Option Addr) (n c : Nat) (zs : List Int) (w : World) (hn : zs.length = n) (hB : Bytes w B zs) :
    Calls Try.prog 11 #[.slice B n c] w (RetB2 w) := by
  have C := Lib.hid (drawRestOf_any B n c zs w hn hB)
  clear hB hn
  go_enter Try.func11, Try.ntmps11
  go_wp2_with fail
  refine C.out.mono ?_
  rintro e w1 ⟨v1, xs, a, rfl, hl, hb⟩
  go_wp2
  refine bodyPost_ret (v := .tuple #[v1, .int .i64 a]) (by simp [results, Try.results11, go_sem]) rfl ⟨v1, xs, a, rfl, hl, hb⟩
end Go.Proofs.Ytacacibpehnmgaa
