/- What the law on filled books draws. -/
import Derived.Test.YtacacibpehnmgaaGreatDoorDrB4
namespace Go.Proofs.YtacacibpehnmgaaGreatDoor
set_option linter.unusedVariables false
set_option linter.unusedSimpArgs false
open Go.RowKit

def RetB1 (W : World) : Ending → World → Prop := fun e w' => ∃ v xs, e = .returned v ∧ LstB w' v xs ∧ Below W.heap.size W w'
def RetBI (W : World) : Ending → World → Prop := fun e w' => ∃ v xs A c ws, e = .returned (.tuple #[v, .slice A ws.length c]) ∧ LstB w' v xs ∧ Rd w' A (cells1 ws) ∧ ws.length ≤ 21 ∧ Below W.heap.size W w'
/-- Beside the list of rows a row of numbers of the call's own, in memory above lo. -/
structure WRel (W : World) (E EI p lo : Nat) (u : Cu) (xs : List BR) (v : Value) (vs : List Value) (ws : List Int) (a : Value) (k : Nat) (wr : World) : Prop where
  b : BRel W E EI p u xs v vs k wr
  row : wr.ownsRow lo EI 1 a ws.length (cells1 ws)
  hlo : W.heap.size ≤ lo
  los : lo ≤ wr.heap.size
  old : ∀ (j : Nat) (a' : Value) (q : Nat), (v :: vs)[j]? = some a' → a'.ownBlock = some q → q < lo
namespace WRel
variable {W wr w1 w2 : World} {E EI p lo k : Nat} {u : Cu} {xs : List BR} {v : Value} {vs : List Value} {ws : List Int} {a : Value}
theorem call {k1 : Nat} (h : WRel W E EI p lo u xs v vs ws a k wr) (hp : p < W.heap.size) (hc : CurB w1 p u k1) (hg : wr.grownBy w1 (some p)) : WRel W E EI p lo u xs v vs ws a k1 w1 :=
  ⟨h.b.call hp hc hg, own_grown h.row hg (by have := h.hlo; omega), h.hlo, Nat.le_trans h.los hg.size, h.old⟩
theorem below (h : WRel W E EI p lo u xs v vs ws a k wr) (hb : Below wr.heap.size wr w1) : WRel W E EI p lo u xs v vs ws a k w1 :=
  ⟨h.b.below hb, own_below h.row hb, h.hlo, Nat.le_trans h.los hb.size, h.old⟩
theorem new {w0 : World} (h : BRel W E EI p u xs v vs k w0) : WRel W E EI p w0.heap.size u xs v vs [] (.slice (some ⟨w0.heap.size, 0, none⟩) 0 0) k (w0.alloc (.cells #[] EI)) where
  b := h.below ((Below.refl _ _).alloc (Nat.le_refl _) _)
  row := World.ownsRow_lit (e := EI) (base := w0.heap.size) w0 #[] (size := 1) 0 (Nat.le_refl _) (by unfold maxLen; omega) rfl
  hlo := h.sz
  los := by simp
  old := fun j a' q h1 h2 => (h.own.lt j a' q h1 h2).2
/-- One more number. -/
theorem push {x : Int} {a' : Value} (h : WRel W E EI p lo u xs v vs ws a k wr) (hp : p < W.heap.size) (ho : w2.ownsRow lo EI 1 a' (ws.length + 1) (cells1 ws ++ [.int .i64 x])) (hg : wr.grownBy w2 a.ownBlock) :
    WRel W E EI p lo u xs v vs (ws ++ [x]) a' k w2 := by
  have hb2 := h.b.only hp (Only.of_grown hg) (fun b hb => by have := (h.row.lt b hb).1; have := h.hlo; omega) (fun j a2 b h1 h2 h3 => by have := h.old j a2 b h1 h2; have := (h.row.lt b h3).1; omega)
  refine ⟨hb2, ?_, h.hlo, Nat.le_trans h.los hg.size, h.old⟩
  rw [cells1_append, List.length_append]
  exact ho
/-- Another number in its place. -/
theorem cells1_set (ws : List Int) (i : Nat) (x : Int) : cells1 (ws.set i x) = (cells1 ws).set i (.int .i64 x) := by simp [cells1, List.map_set]
theorem set {g n c i : Nat} (h : WRel W E EI p lo u xs v vs ws (.slice (some ⟨g, 0, none⟩) n c) k wr) (hp : p < W.heap.size) (hn : ws.length = n) (x : Int) :
    WRel W E EI p lo u xs v vs (ws.set i x) (.slice (some ⟨g, 0, none⟩) n c) k (wr.setCell ⟨g, i, none⟩ (.int .i64 x)) := by
  have hgl := (h.row.lt g rfl).1
  have hb3 := h.b.only hp (Only.of_grown (grown_cell wr g i (.int .i64 x))) (fun b hb => by injection hb with hb; have := h.hlo; omega) (fun j a2 b h1 h2 h3 => by injection h3 with h3; have := h.old j a2 b h1 h2; omega)
  refine ⟨hb3, ?_, h.hlo, by have := h.los; simpa using this, h.old⟩
  have h0 := h.row
  rw [hn] at h0
  have h1 := (h0.stored i (.int .i64 x)).1
  rw [List.length_set, hn, cells1_set]
  exact h1
end WRel

set_option maxRecDepth 20000 in
set_option maxHeartbeats 8000000 in
theorem drawIsStockBook_any (B : Option Addr) (n c : Nat) (zs : List Int) (w : World) (hn : zs.length = n) (hB : Bytes w B zs) :
    Calls Tryz.prog 41 #[.slice B n c] w (RetB1 w) := by
  subst hn
  have HC0 := Lib.hid (CurB.new hB c 52)
  obtain ⟨u, hu⟩ : ∃ u : Cu, u = ⟨B, c, zs⟩ := ⟨_, rfl⟩
  rw [← hu] at HC0
  clear hu hB
  obtain ⟨p, hp⟩ : ∃ p, p = w.heap.size := ⟨_, rfl⟩
  have HP := Lib.hid hp
  have BK := Lib.hid (fun k w h hk => book27_any p k u w h hk)
  have BI := Lib.hid (fun k w A n c xs hn hx hA hf h hk => bookId_any p k u w A n c xs hn hx hA hf h hk)
  have AM := Lib.hid (fun k n c A zs w h hk hz hn hn2 hA hf => among_any p k n c u A zs w h hk hz hn hn2 hA hf)
  have PK := Lib.hid (fun k m w h hk hm hm2 => pick_any p k m u w h hk hm hm2)
  have ON := Lib.hid (fun k m w h hk hm hm2 => one_any p k m u w h hk hm hm2)
  have WI := Lib.hid (fun k w h hk => width27_any p k u w h hk)
  have HC1 : Hid (CurB (w.alloc (.cells #[.slice B zs.length c, .int .i64 0, .int .u64 0] 52)) p u 0) := Lib.hid (by rw [hp]; exact HC0.out)
  have HBW : Hid (w.grownBy (w.alloc (.cells #[.slice B zs.length c, .int .i64 0, .int .u64 0] 52)) (some p)) := Lib.hid (World.grownBy_alloc w _ _)
  have hp1 : p < (w.alloc (.cells #[.slice B zs.length c, .int .i64 0, .int .u64 0] 52)).heap.size := by rw [hp]; simp
  clear HC0 hp
  go_enter Tryz.func41, Tryz.ntmps41
  go_wp2_with fail
  rw [← HP.out]
  refine (BK.out 0 _ HC1.out (by omega)).mono ?_
  rintro e w1 ⟨v1, xs, vs, k1, rfl, o1, hx, hxw, hk1, hc, hg⟩
  have HL1 := Lib.hid (show BRel (w.alloc (.cells #[.slice B zs.length c, .int .i64 0, .int .u64 0] 52)) 34 3 p u xs v1 vs k1 w1 from ⟨o1, hc, hg⟩)
  obtain ⟨A, ca, rfl⟩ := own_form o1.2.1
  have HXW := Lib.hid hxw
  have hs1 := HL1.out.sz
  clear o1 hc hg HC1 hxw
  go_wp2
  refine bodyPost_ret (v := .slice A xs.length ca) (by simp [results, Tryz.results41, go_sem]) rfl ?_
  exact ⟨_, xs, rfl, LstB.of HL1.out.own hx HXW.out, (Below.refl _ _).grown (grown_trans HBW.out HL1.out.gr) (Nat.le_refl _) (fun k hk => by injection hk with hk; have := HP.out; omega)⟩

set_option maxHeartbeats 2000000 in
theorem drawStraightenBook_any (B : Option Addr) (n c : Nat) (zs : List Int) (w : World) (hn : zs.length = n) (hB : Bytes w B zs) :
    Calls Tryz.prog 13 #[.slice B n c] w (RetB1 w) := by
  have C := Lib.hid (drawIsStockBook_any B n c zs w hn hB)
  clear hB hn
  go_enter Tryz.func13, Tryz.ntmps13
  go_wp2_with fail
  refine C.out.mono ?_
  rintro e w1 ⟨v1, xs, rfl, hl, hb⟩
  go_wp2
  refine bodyPost_ret (v := v1) (by simp [results, Tryz.results13, go_sem]) rfl ⟨v1, xs, rfl, hl, hb⟩

set_option maxRecDepth 20000 in
set_option maxHeartbeats 8000000 in
theorem drawSwapStrips_any (B : Option Addr) (n c : Nat) (zs : List Int) (w : World) (hn : zs.length = n) (hB : Bytes w B zs) :
    Calls Tryz.prog 16 #[.slice B n c] w (RetB3 w) := by
  subst hn
  have HC0 := Lib.hid (CurB.new hB c 52)
  obtain ⟨u, hu⟩ : ∃ u : Cu, u = ⟨B, c, zs⟩ := ⟨_, rfl⟩
  rw [← hu] at HC0
  clear hu hB
  obtain ⟨p, hp⟩ : ∃ p, p = w.heap.size := ⟨_, rfl⟩
  have HP := Lib.hid hp
  have BK := Lib.hid (fun k w h hk => book27_any p k u w h hk)
  have BI := Lib.hid (fun k w A n c xs hn hx hA hf h hk => bookId_any p k u w A n c xs hn hx hA hf h hk)
  have AM := Lib.hid (fun k n c A zs w h hk hz hn hn2 hA hf => among_any p k n c u A zs w h hk hz hn hn2 hA hf)
  have PK := Lib.hid (fun k m w h hk hm hm2 => pick_any p k m u w h hk hm hm2)
  have ON := Lib.hid (fun k m w h hk hm hm2 => one_any p k m u w h hk hm hm2)
  have WI := Lib.hid (fun k w h hk => width27_any p k u w h hk)
  have HC1 : Hid (CurB (w.alloc (.cells #[.slice B zs.length c, .int .i64 0, .int .u64 0] 52)) p u 0) := Lib.hid (by rw [hp]; exact HC0.out)
  have HBW : Hid (w.grownBy (w.alloc (.cells #[.slice B zs.length c, .int .i64 0, .int .u64 0] 52)) (some p)) := Lib.hid (World.grownBy_alloc w _ _)
  have hp1 : p < (w.alloc (.cells #[.slice B zs.length c, .int .i64 0, .int .u64 0] 52)).heap.size := by rw [hp]; simp
  clear HC0 hp
  go_enter Tryz.func16, Tryz.ntmps16
  go_wp2_with fail
  rw [← HP.out]
  refine (BK.out 0 _ HC1.out (by omega)).mono ?_
  rintro e w1 ⟨v1, xs, vs, k1, rfl, o1, hx, hxw, hk1, hc, hg⟩
  have HL1 := Lib.hid (show BRel (w.alloc (.cells #[.slice B zs.length c, .int .i64 0, .int .u64 0] 52)) 34 3 p u xs v1 vs k1 w1 from ⟨o1, hc, hg⟩)
  obtain ⟨A, ca, rfl⟩ := own_form o1.2.1
  have HXW := Lib.hid hxw
  have hs1 := HL1.out.sz
  clear o1 hc hg HC1 hxw
  go_wp2_with fail
  refine (BI.out k1 _ A xs.length ca xs rfl hx HL1.out.own.rd2 (fun g o q e => by subst e; have := (HL1.out.own.lt 0 _ g rfl rfl).1; omega) HL1.out.cur (by omega)).mono ?_
  rintro e w2 ⟨v2, k2, rfl, ⟨z2, rfl⟩, hk2, hc, hg⟩
  have HL2 := Lib.hid (HL1.out.call hp1 hc hg)
  have hs2 := HL2.out.sz
  clear hc hg HL1
  go_wp2_with fail
  refine (BI.out k2 _ A xs.length ca xs rfl hx HL2.out.own.rd2 (fun g o q e => by subst e; have := (HL2.out.own.lt 0 _ g rfl rfl).1; omega) HL2.out.cur (by omega)).mono ?_
  rintro e w3 ⟨v3, k3, rfl, ⟨z3, rfl⟩, hk3, hc, hg⟩
  have HL3 := Lib.hid (HL2.out.call hp1 hc hg)
  have hs3 := HL3.out.sz
  clear hc hg HL2
  go_wp2
  refine bodyPost_ret (v := .tuple #[.slice A xs.length ca, .int .i64 z2, .int .i64 z3]) (by simp [results, Tryz.results16, go_sem]) rfl ?_
  exact ⟨_, xs, z2, z3, rfl, LstB.of HL3.out.own hx HXW.out, (Below.refl _ _).grown (grown_trans HBW.out HL3.out.gr) (Nat.le_refl _) (fun k hk => by injection hk with hk; have := HP.out; omega)⟩

set_option maxRecDepth 20000 in
set_option maxHeartbeats 8000000 in
theorem drawTightStrip_any (B : Option Addr) (n c : Nat) (zs : List Int) (w : World) (hn : zs.length = n) (hB : Bytes w B zs) :
    Calls Tryz.prog 19 #[.slice B n c] w (RetB2 w) := by
  subst hn
  have HC0 := Lib.hid (CurB.new hB c 52)
  obtain ⟨u, hu⟩ : ∃ u : Cu, u = ⟨B, c, zs⟩ := ⟨_, rfl⟩
  rw [← hu] at HC0
  clear hu hB
  obtain ⟨p, hp⟩ : ∃ p, p = w.heap.size := ⟨_, rfl⟩
  have HP := Lib.hid hp
  have BK := Lib.hid (fun k w h hk => book27_any p k u w h hk)
  have BI := Lib.hid (fun k w A n c xs hn hx hA hf h hk => bookId_any p k u w A n c xs hn hx hA hf h hk)
  have AM := Lib.hid (fun k n c A zs w h hk hz hn hn2 hA hf => among_any p k n c u A zs w h hk hz hn hn2 hA hf)
  have PK := Lib.hid (fun k m w h hk hm hm2 => pick_any p k m u w h hk hm hm2)
  have ON := Lib.hid (fun k m w h hk hm hm2 => one_any p k m u w h hk hm hm2)
  have WI := Lib.hid (fun k w h hk => width27_any p k u w h hk)
  have HC1 : Hid (CurB (w.alloc (.cells #[.slice B zs.length c, .int .i64 0, .int .u64 0] 52)) p u 0) := Lib.hid (by rw [hp]; exact HC0.out)
  have HBW : Hid (w.grownBy (w.alloc (.cells #[.slice B zs.length c, .int .i64 0, .int .u64 0] 52)) (some p)) := Lib.hid (World.grownBy_alloc w _ _)
  have hp1 : p < (w.alloc (.cells #[.slice B zs.length c, .int .i64 0, .int .u64 0] 52)).heap.size := by rw [hp]; simp
  clear HC0 hp
  go_enter Tryz.func19, Tryz.ntmps19
  go_wp2_with fail
  rw [← HP.out]
  refine (BK.out 0 _ HC1.out (by omega)).mono ?_
  rintro e w1 ⟨v1, xs, vs, k1, rfl, o1, hx, hxw, hk1, hc, hg⟩
  have HL1 := Lib.hid (show BRel (w.alloc (.cells #[.slice B zs.length c, .int .i64 0, .int .u64 0] 52)) 34 3 p u xs v1 vs k1 w1 from ⟨o1, hc, hg⟩)
  obtain ⟨A, ca, rfl⟩ := own_form o1.2.1
  have HXW := Lib.hid hxw
  have hs1 := HL1.out.sz
  clear o1 hc hg HC1 hxw
  go_wp2_with fail
  refine (PK.out k1 24 _ (HL1.out.cur.alloc _) (by omega) (by decide) (by decide)).mono ?_
  rintro e w2 ⟨v2, k2, rfl, ⟨r2, rfl, a2, b2⟩, hk2, hc, hg⟩
  have HL2 := Lib.hid ((HL1.out.below ((Below.refl _ _).alloc (Nat.le_refl _) _)).call hp1 hc hg)
  have RD2 : Hid (Rd w2 (some ⟨w1.heap.size, 0, none⟩) (cells1 [10, 20, 39, 60, 9, 61])) := Lib.hid (Rd.grown hg (rd_ints (w := w1) [10, 20, 39, 60, 9, 61] 3) (fun g o q e => by injection e with e; injection e with e e2 e3; intro e4; injection e4 with e4; omega))
  obtain ⟨q2, hq2, hq22⟩ : ∃ q : Nat, r2.tdiv 11 = (q : Int) ∧ q ≤ 2 := ⟨(r2.tdiv 11).toNat, by rw [Int.toNat_of_nonneg]; rw [Int.tdiv_eq_ediv_of_nonneg (by omega)]; omega, by rw [Int.tdiv_eq_ediv_of_nonneg (by omega)]; omega⟩
  obtain ⟨m2, hm2⟩ : ∃ m, m = 4 + q2 := ⟨_, rfl⟩
  have hwq2 : IntKind.i64.wrap (q2 : Int) = (q2 : Int) := IntWalk.i64_in _ (by omega)
  have hwm2 : IntKind.i64.wrap (4 + (q2 : Int)) = (m2 : Int) := by rw [IntWalk.i64_in _ (by omega)]; omega
  have hma2 : 1 ≤ m2 := by omega
  have hmb2 : m2 ≤ 6 := by omega
  have hm02 : (0 : Int) ≤ (m2 : Int) := by omega
  have hmc2 : (m2 : Int) ≤ 6 := by omega
  have hsz2 : w1.heap.size ≤ w2.heap.size := by have := hg.size; simp at this; omega
  clear hc hg HL1 hm2 a2 b2
  go_wp2_with fail
  refine (AM.out k2 m2 _ (some ⟨w1.heap.size, 0, none⟩) ([10, 20, 39, 60, 9, 61].take m2) _ HL2.out.cur (by omega) (by simp; omega) (by omega) (by omega) (rd_takeI RD2.out m2) (fun g o q e => by injection e with e; injection e with e e2 e3; omega)).mono ?_
  rintro e w3 ⟨v3, k3, rfl, ⟨z3, hz3, rfl⟩, hk3, hc, hg⟩
  have HL3 := Lib.hid (HL2.out.call hp1 hc hg)
  have hs3 := HL3.out.sz
  clear hc hg HL2 RD2
  go_wp2
  refine bodyPost_ret (v := .tuple #[.slice A xs.length ca, .int .i64 z3]) (by simp [results, Tryz.results19, go_sem]) rfl ?_
  exact ⟨_, xs, z3, rfl, LstB.of HL3.out.own hx HXW.out, (Below.refl _ _).grown (grown_trans HBW.out HL3.out.gr) (Nat.le_refl _) (fun k hk => by injection hk with hk; have := HP.out; omega)⟩

set_option maxRecDepth 20000 in
set_option maxHeartbeats 8000000 in
theorem drawFillBook_any (B : Option Addr) (n c : Nat) (zs : List Int) (w : World) (hn : zs.length = n) (hB : Bytes w B zs) :
    Calls Tryz.prog 5 #[.slice B n c] w (RetBI w) := by
  subst hn
  have HC0 := Lib.hid (CurB.new hB c 52)
  obtain ⟨u, hu⟩ : ∃ u : Cu, u = ⟨B, c, zs⟩ := ⟨_, rfl⟩
  rw [← hu] at HC0
  clear hu hB
  obtain ⟨p, hp⟩ : ∃ p, p = w.heap.size := ⟨_, rfl⟩
  have HP := Lib.hid hp
  have BK := Lib.hid (fun k w h hk => book27_any p k u w h hk)
  have BI := Lib.hid (fun k w A n c xs hn hx hA hf h hk => bookId_any p k u w A n c xs hn hx hA hf h hk)
  have AM := Lib.hid (fun k n c A zs w h hk hz hn hn2 hA hf => among_any p k n c u A zs w h hk hz hn hn2 hA hf)
  have PK := Lib.hid (fun k m w h hk hm hm2 => pick_any p k m u w h hk hm hm2)
  have ON := Lib.hid (fun k m w h hk hm hm2 => one_any p k m u w h hk hm hm2)
  have WI := Lib.hid (fun k w h hk => width27_any p k u w h hk)
  have HC1 : Hid (CurB (w.alloc (.cells #[.slice B zs.length c, .int .i64 0, .int .u64 0] 52)) p u 0) := Lib.hid (by rw [hp]; exact HC0.out)
  have HBW : Hid (w.grownBy (w.alloc (.cells #[.slice B zs.length c, .int .i64 0, .int .u64 0] 52)) (some p)) := Lib.hid (World.grownBy_alloc w _ _)
  have hp1 : p < (w.alloc (.cells #[.slice B zs.length c, .int .i64 0, .int .u64 0] 52)).heap.size := by rw [hp]; simp
  clear HC0 hp
  go_enter Tryz.func5, Tryz.ntmps5
  go_wp2_with fail
  rw [← HP.out]
  refine (BK.out 0 _ HC1.out (by omega)).mono ?_
  rintro e w1 ⟨v1, xs, vs, k1, rfl, o1, hx, hxw, hk1, hc, hg⟩
  have HL1 := Lib.hid (show BRel (w.alloc (.cells #[.slice B zs.length c, .int .i64 0, .int .u64 0] 52)) 34 3 p u xs v1 vs k1 w1 from ⟨o1, hc, hg⟩)
  obtain ⟨A, ca, rfl⟩ := own_form o1.2.1
  have HXW := Lib.hid hxw
  have hs1 := HL1.out.sz
  clear o1 hc hg HC1 hxw
  have HV1 := Lib.hid (WRel.new (EI := 3) HL1.out)
  have hz1 : (w1.alloc (.cells #[] 3)).heap.size = w1.heap.size + 1 := by simp
  clear HL1
  go_wp2_with fail
  refine (PK.out k1 24 _ (HV1.out.b.cur.alloc _) (by omega) (by decide) (by decide)).mono ?_
  rintro e w2 ⟨v2, k2, rfl, ⟨r2, rfl, a2, b2⟩, hk2, hc, hg⟩
  have HV2 := Lib.hid ((HV1.out.below ((Below.refl _ _).alloc (Nat.le_refl _) _)).call hp1 hc hg)
  have RD2 : Hid (Rd w2 (some ⟨w1.heap.size + 1, 0, none⟩) (cells1 [0, 1, 3, 5, 20, 21])) := Lib.hid (by
    have h := Rd.grown hg (rd_ints (w := (w1.alloc (.cells #[] 3))) [0, 1, 3, 5, 20, 21] 3) (fun g o q e => by injection e with e; injection e with e e2 e3; intro e4; injection e4 with e4; omega)
    rw [hz1] at h
    exact h)
  obtain ⟨q2, hq2, hqq2⟩ : ∃ q : Nat, r2.tdiv 12 = (q : Int) ∧ q ≤ 1 := ⟨(r2.tdiv 12).toNat, by rw [Int.toNat_of_nonneg]; rw [Int.tdiv_eq_ediv_of_nonneg (by omega)]; omega, by rw [Int.tdiv_eq_ediv_of_nonneg (by omega)]; omega⟩
  obtain ⟨m2, hm2⟩ : ∃ m, m = 5 + q2 := ⟨_, rfl⟩
  have hwq2 : IntKind.i64.wrap (q2 : Int) = (q2 : Int) := IntWalk.i64_in _ (by omega)
  have hwm2 : IntKind.i64.wrap (5 + (q2 : Int)) = (m2 : Int) := by rw [IntWalk.i64_in _ (by omega)]; omega
  have hma2 : 1 ≤ m2 := by omega
  have hmb2 : m2 ≤ 6 := by omega
  have hm02 : (0 : Int) ≤ (m2 : Int) := by omega
  have hmc2 : (m2 : Int) ≤ 6 := by omega
  have hsz2 : w1.heap.size + 2 ≤ w2.heap.size := by have := hg.size; simp at this; omega
  clear hc hg HV1 hm2 a2 b2
  go_wp2_with fail
  refine (AM.out k2 m2 _ (some ⟨w1.heap.size + 1, 0, none⟩) ([0, 1, 3, 5, 20, 21].take m2) _ HV2.out.b.cur (by omega) (by simp; omega) (by omega) (by omega) (rd_takeI RD2.out m2) (fun g o q e => by injection e with e; injection e with e e2 e3; omega)).mono ?_
  rintro e w3 ⟨v3, k3, rfl, ⟨z3, hz3, rfl⟩, hk3, hc, hg⟩
  have HV3 := Lib.hid (HV2.out.call hp1 hc hg)
  have hs3 := HV3.out.b.sz
  obtain ⟨n3, rfl, hn3⟩ : ∃ n3 : Nat, z3 = n3 ∧ n3 ≤ 21 := by
    have h := List.mem_of_mem_take hz3
    simp only [List.mem_cons, List.not_mem_nil, or_false] at h
    exact ⟨z3.toNat, by omega, by omega⟩
  clear hc hg HV2 RD2 hz3
  go_wp2_with fail
  go_loopw [6, 7] (fun a n wr => ∃ (j : Nat) (ws : List Int) (kk : Nat), n = .int .i64 j ∧ ws.length + j = n3 ∧ kk + 4 * j ≤ k3 + 4 * n3 ∧ WRel (w.alloc (.cells #[.slice B zs.length c, .int .i64 0, .int .u64 0] 52)) 34 3 p w1.heap.size u xs (.slice A xs.length ca) vs ws a kk wr) (fun _ n _ => (intOf n).toNat)
  case atStart => exact ⟨n3, [], k3, rfl, by simp, by omega, HV3.out⟩
  case round =>
    obtain ⟨j, ws, kk, rfl, hwj, hkk, hV⟩ := hrel
    obtain ⟨Aw, cw, rfl⟩ := own_form hV.row
    have HV := Lib.hid hV
    clear hV HV3
    by_cases hj0 : 0 < j
    · have hj0' : (0 : Int) < (j : Int) := by omega
      go_wp2_with fail
      refine (WI.out kk _ HV.out.b.cur (by omega)).mono ?_
      rintro e w6 ⟨v6, k6, rfl, ⟨x, rfl⟩, hk6, hc, hg⟩
      have HV6 := Lib.hid (HV.out.call hp1 hc hg)
      clear hc hg HV
      have hbx : Below w6.heap.size w6 (w6.alloc (.cells #[.int .i64 x] 3)) := (Below.refl _ _).alloc (Nat.le_refl _) _
      have HVa := Lib.hid (HV6.out.below hbx)
      have HROW := Lib.hid HVa.out.row
      have HXa : Hid (Rd (w6.alloc (.cells #[.int .i64 x] 3)) (some ⟨w6.heap.size, 0, none⟩) [.int .i64 x]) := Lib.hid (rd_new #[.int .i64 x] 3 rfl)
      have hbs : w1.heap.size ≤ (w6.alloc (.cells #[.int .i64 x] 3)).heap.size := HVa.out.los
      clear hbx HV6
      go_wp2_with (at_builtin; go_must (refine wpList_app _ rfl (.tmp 26) (.tmp 29) 25 rfl w1.heap.size 3 _ 1 8 Tryz.underlying25 infoI rfl (by omega) _ _ _ rfl HROW.out _ 1 1 [.int .i64 x] rfl rfl HXa.out (oneCell_ints [x]) (by unfold maxLen; omega) (by omega) hbs ?_); intro v9 w9 o9 g9 d9; refine Hid.out ?_)
      have HVf := Lib.hid (HVa.out.push hp1 o9 g9)
      clear o9 g9 d9 HVa HROW HXa hbs
      refine Lib.hid ?_
      go_wp2
      go_roundw
      case rel => exact ⟨j - 1, ws ++ [x], k6, by go_num, by simp; omega, by omega, HVf.out⟩
      case measure => simp [intOf]; omega
    · have hj : j = 0 := by omega
      subst hj
      rw [show ((0 : Nat) : Int) = 0 from rfl]
      have hwl : ws.length ≤ 21 := by omega
      by_cases hw0 : ws.length = 0
      · have hw0' : ((ws.length : Int)) = 0 := by omega
        have hw0d : decide ((0 : Int) < (ws.length : Int)) = false := decide_eq_false (by omega)
        have hw0m : decide (0 < ws.length) = false := decide_eq_false (by omega)
        have hw0n : ¬ 0 < ws.length := by omega
        go_wp2
        refine bodyPost_ret (v := .tuple #[.slice A xs.length ca, .slice Aw ws.length cw]) (by simp [results, Tryz.results5, go_sem]) rfl ?_
        exact ⟨_, xs, Aw, cw, ws, rfl, LstB.of HV.out.b.own hx HXW.out, Rd.of_own HV.out.row, hwl, (Below.refl _ _).grown (grown_trans HBW.out HV.out.b.gr) (Nat.le_refl _) (fun k hk => by injection hk with hk; have := HP.out; omega)⟩
      · have hw0' : (0 : Int) < (ws.length : Int) := by omega
        have hw0d : decide ((0 : Int) < (ws.length : Int)) = true := decide_eq_true hw0'
        have hw0n : 0 < ws.length := by omega
        have hw0m : decide (0 < ws.length) = true := decide_eq_true hw0n
        go_wp2_with fail
        refine (ON.out kk 30 _ HV.out.b.cur (by omega) (by decide) (by decide)).mono ?_
        rintro e w8 ⟨v8, k8, rfl, ⟨b8, rfl⟩, hk8, hc, hg⟩
        have HV8 := Lib.hid (HV.out.call hp1 hc hg)
        clear hc hg HV
        cases b8 with
        | false =>
          go_wp2
          refine bodyPost_ret (v := .tuple #[.slice A xs.length ca, .slice Aw ws.length cw]) (by simp [results, Tryz.results5, go_sem]) rfl ?_
          exact ⟨_, xs, Aw, cw, ws, rfl, LstB.of HV8.out.b.own hx HXW.out, Rd.of_own HV8.out.row, hwl, (Below.refl _ _).grown (grown_trans HBW.out HV8.out.b.gr) (Nat.le_refl _) (fun k hk => by injection hk with hk; have := HP.out; omega)⟩
        | true =>
          go_wp2_with fail
          refine (AM.out k8 2 _ (some ⟨w8.heap.size, 0, none⟩) [9, 61] _ (HV8.out.b.cur.alloc _) (by omega) rfl (by decide) (by decide) (rd_ints (w := w8) [9, 61] 3) (fun g o q e => by have := HV8.out.b.cur.lt; injection e with e; injection e with e; omega)).mono ?_
          rintro e w9 ⟨v9, k9, rfl, ⟨z9, -, rfl⟩, hk9, hc, hg⟩
          have HV9 := Lib.hid ((HV8.out.below ((Below.refl _ _).alloc (Nat.le_refl _) _)).call hp1 hc hg)
          clear hc hg HV8
          obtain ⟨g9, rfl⟩ := own_somei HV9.out.row (by omega)
          have r9 := HV9.out.row
          obtain ⟨y, hy⟩ : ∃ y, ws[0]? = some y := ⟨ws[0]'(by omega), List.getElem?_eq_getElem _⟩
          have c9 : w9.cell? ⟨g9, 0, none⟩ = some (.int .i64 y) := by rw [r9.cellAt 0 (by omega)]; simp [cells1, hy]
          have f9 := r9.frozenAt 0
          have HVf := Lib.hid (HV9.out.set hp1 rfl (i := 0) z9)
          clear r9 hy
          go_wp2
          refine bodyPost_ret (v := .tuple #[.slice A xs.length ca, .slice (some ⟨g9, 0, none⟩) ws.length cw]) (by simp [results, Tryz.results5, go_sem]) rfl ?_
          have hlw : (ws.set 0 z9).length = ws.length := List.length_set
          have HO := HVf.out.row
          exact ⟨_, xs, _, cw, ws.set 0 z9, by rw [hlw], LstB.of HVf.out.b.own hx HXW.out, Rd.of_own (by rw [hlw] at HO; exact HO), by omega, (Below.refl _ _).grown (grown_trans HBW.out HVf.out.b.gr) (Nat.le_refl _) (fun k hk => by injection hk with hk; have := HP.out; omega)⟩
end Go.Proofs.YtacacibpehnmgaaGreatDoor
