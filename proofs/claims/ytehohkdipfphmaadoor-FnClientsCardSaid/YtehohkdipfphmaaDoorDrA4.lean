/- What the laws on approvals draw. -/
import Derived.Test.YtehohkdipfphmaaDoorDrA3
namespace Go.Proofs.YtehohkdipfphmaaDoor
set_option linter.unusedVariables false
set_option linter.unusedSimpArgs false
open Go.RowKit

/-- The list that a draw returns: it reads as xs. -/
structure LstA (w : World) (v : Value) (xs : List AR) : Prop where
  form : ∃ A c, v = .slice A xs.length c ∧ RdA w A xs ∧ xs.length ≤ c ∧ c ≤ maxLen
  len : xs.length ≤ 13
  ds : ∀ x ∈ xs, dsA x
theorem LstA.of {w : World} {lo E p : Nat} {v : Value} {xs : List AR} {vs : List Value} (h : InA w lo E p v xs vs) (hl : xs.length ≤ 13) : LstA w v xs := by
  obtain ⟨A, c, rfl⟩ := own_form h.row
  exact ⟨⟨A, c, rfl, h.rd2, (h.cap rfl).1, (h.cap rfl).2⟩, hl, h.ds⟩
theorem LstA.below {w w' : World} {v : Value} {xs : List AR} (h : LstA w v xs) (hb : Below w.heap.size w w') : LstA w' v xs := by
  obtain ⟨⟨A, c, e, r, h1, h2⟩, hl, hd⟩ := h
  exact ⟨⟨A, c, e, r.below hb, h1, h2⟩, hl, hd⟩
/-- The list stands while the cursor, and blocks from N on, change. -/
structure FxA (N : Nat) (w : World) (lo E p : Nat) (v : Value) (xs : List AR) (vs : List Value) : Prop where
  len : vs.length = 2 * xs.length
  row : w.ownsRow lo E 6 v xs.length (cellsA xs vs)
  inn : ∀ (j : Nat) (zs : List Int) (u : Value), (innA xs)[j]? = some zs → vs[j]? = some u → StI (fun b => b = p ∨ N ≤ b) w u zs
  ds : ∀ x ∈ xs, dsA x
  hN : ∀ b, v.ownBlock = some b → b < N
  hp : p < lo
theorem FxA.of {w : World} {lo E p : Nat} {v : Value} {xs : List AR} {vs : List Value} (h : InA w lo E p v xs vs) (hp : p < lo) : FxA w.heap.size w lo E p v xs vs :=
  ⟨h.len, h.row, fun j zs u h1 h2 => (h.inn j zs u h1 h2).sub (fun b hb hl => by rcases hb with e | e; exact .inl e; omega), h.ds, fun b hb => (h.row.lt b hb).2, hp⟩
theorem FxA.keep {N : Nat} {w w2 : World} {lo E p : Nat} {v : Value} {xs : List AR} {vs : List Value} (h : FxA N w lo E p v xs vs) (hw : Only (fun b => b = p ∨ N ≤ b) w w2) : FxA N w2 lo E p v xs vs :=
  ⟨h.len, own_only h.row hw (fun k hk e => by have := (h.row.lt k hk).1; have := h.hN k hk; have := h.hp; rcases e with e | e <;> omega), fun j zs u hz hu => (h.inn j zs u hz hu).turn hw (fun b hb _ => hb) (fun b hb _ => hb), h.ds, h.hN, h.hp⟩
theorem FxA.pick {N : Nat} {w : World} {lo E p n c m : Nat} {A : Option Addr} {xs : List AR} {vs : List Value} {x : AR} (h : FxA N w lo E p (.slice A n c) xs vs) (hx : xs[m]? = some x) :
    ∃ g o B cB D cD, A = some ⟨g, o, none⟩ ∧ RowA w g (o + m * 6) B cB D cD x ∧ StI (fun b => b = p ∨ N ≤ b) w (.slice B x.items.length cB) x.items ∧ g < N := by
  obtain ⟨A', c', e⟩ := own_form h.row
  injection e with e1 e2 e3
  subst e1; subst e2; subst e3
  have hk := (List.getElem?_eq_some_iff.1 hx).1
  rcases Rd.of_own h.row with h0 | ⟨g, o, e, hg, hc⟩
  · have := length_cellsA h.len
    rw [h0] at this; simp at this; omega
  · have h1 : 2 * m < vs.length := by have := h.len; omega
    have h2 : 2 * m + 1 < vs.length := by have := h.len; omega
    obtain ⟨i1, i2⟩ := innA_get hx
    have s1 := h.inn _ _ _ i1 (List.getElem?_eq_getElem h1)
    have s2 := h.inn _ _ _ i2 (List.getElem?_eq_getElem h2)
    obtain ⟨g0, g1, g2, g3, g4, g5⟩ := cellsA_get hx (List.getElem?_eq_getElem h1) (List.getElem?_eq_getElem h2)
    obtain ⟨B, cB, eB, b1, b2, rB⟩ := s1.rd
    obtain ⟨D, cD, eD, d1, d2, rD⟩ := s2.rd
    rw [eB] at g3 s1
    rw [eD] at g4
    refine ⟨g, o, B, cB, D, cD, e, ⟨hg, by have := (h.ds x (List.mem_of_getElem? hx)).1; unfold maxLen; omega, hc _ _ g0, ?_, ?_, ?_, ?_, ?_, b1, b2, d1, d2, rB, rD⟩, s1, h.hN g (by rw [e]; rfl)⟩
    · have := hc _ _ g1; rw [← Nat.add_assoc] at this; exact this
    · have := hc _ _ g2; rw [← Nat.add_assoc] at this; exact this
    · have := hc _ _ g3; rw [← Nat.add_assoc] at this; exact this
    · have := hc _ _ g4; rw [← Nat.add_assoc] at this; exact this
    · have := hc _ _ g5; rw [← Nat.add_assoc] at this; exact this
theorem FxA.rd {N : Nat} {w : World} {lo E p c : Nat} {A : Option Addr} {xs : List AR} {vs : List Value} (h : FxA N w lo E p (.slice A xs.length c) xs vs) : RdA w A xs := by
  by_cases h0 : xs = []
  · exact .inl h0
  · obtain ⟨y, hy⟩ : ∃ y, xs[0]? = some y := ⟨xs[0]'(List.length_pos_iff.2 h0), List.getElem?_eq_getElem _⟩
    obtain ⟨g, o, B0, c0, D0, d0, e, hr0, -⟩ := h.pick hy
    refine .inr ⟨g, o, e, hr0.lt, fun k x hx => ?_⟩
    obtain ⟨g', o', B, cB, D, cD, e', hr, -⟩ := h.pick hx
    rw [e] at e'; injection e' with e'; injection e' with e1 e2; subst e1; subst e2
    exact ⟨hr.cs, hr.c0, hr.c1, hr.c2, ⟨_, hr.c3, B, cB, rfl, hr.b1, hr.b2, hr.rB⟩, ⟨_, hr.c4, D, cD, rfl, hr.d1, hr.d2, hr.rD⟩, hr.c5⟩
theorem LstA.of2 {N : Nat} {w : World} {lo E p : Nat} {v : Value} {xs : List AR} {vs : List Value} (h : FxA N w lo E p v xs vs) (hl : xs.length ≤ 13) : LstA w v xs := by
  obtain ⟨A, c, rfl⟩ := own_form h.row
  exact ⟨⟨A, c, rfl, h.rd, (own_capS h.row).1, (own_capS h.row).2⟩, hl, h.ds⟩
/-- Beside the list a box with one of its approvals, and a row of numbers of the call's own. -/
structure TRel (W : World) (E EI N p xb lo2 : Nat) (u : Cu) (xs : List AR) (v : Value) (vs : List Value) (y : AR) (a b : Value) (ks : List Int) (q : Value) (k : Nat) (wr : World) : Prop where
  cur : CurB wr p u k
  gr : W.grownBy wr (some p)
  fx : FxA N wr W.heap.size E p v xs vs
  box : Blk wr xb (row6 y a b)
  it : StI (fun b => b = p ∨ N ≤ b) wr a y.items
  dy : dsA y
  row : wr.ownsRow lo2 EI 1 q ks.length (cells1 ks)
  hN : W.heap.size ≤ N
  hx : N ≤ xb
  hl : xb < lo2
  hp : p < W.heap.size
  los : xb + 1 ≤ wr.heap.size
namespace TRel
variable {W wr w1 w2 : World} {E EI N p xb lo2 k k1 : Nat} {u : Cu} {xs : List AR} {v : Value} {vs : List Value} {y y' : AR} {a b a' b' q q' : Value} {ks : List Int}
theorem call (h : TRel W E EI N p xb lo2 u xs v vs y a b ks q k wr) (hc : CurB w1 p u k1) (hg : wr.grownBy w1 (some p)) : TRel W E EI N p xb lo2 u xs v vs y a b ks q k1 w1 := by
  have h1 := h.hN; have h2 := h.hx; have h3 := h.hl; have h4 := h.hp
  have ho : Only (fun b => b = p ∨ N ≤ b) wr w1 := (only_grown hg).mono (fun b hb => .inl hb)
  exact ⟨hc, grown_trans h.gr hg, h.fx.keep ho, h.box.grown hg (fun e => by injection e with e; omega), h.it.turn ho (fun b hb _ => hb) (fun b hb _ => hb), h.dy, own_grown h.row hg (by omega), h1, h2, h3, h4, Nat.le_trans h.los hg.size⟩
theorem below (h : TRel W E EI N p xb lo2 u xs v vs y a b ks q k wr) (hb : Below wr.heap.size wr w1) : TRel W E EI N p xb lo2 u xs v vs y a b ks q k w1 :=
  ⟨h.cur.grown hb, grown_trans h.gr (grown_below hb), h.fx.keep (Only.of_below hb), h.box.below hb h.box.lt, h.it.turn (T := fun b => b = p ∨ N ≤ b) (Only.of_below hb) (fun b hb _ => hb) (fun b hb _ => hb), h.dy, own_below h.row hb, h.hN, h.hx, h.hl, h.hp, Nat.le_trans h.los hb.size⟩
/-- One more number. -/
theorem push {x : Int} (h : TRel W E EI N p xb lo2 u xs v vs y a b ks q k wr) (ho : w2.ownsRow lo2 EI 1 q' (ks.length + 1) (cells1 ks ++ [.int .i64 x])) (hg : wr.grownBy w2 q.ownBlock) : TRel W E EI N p xb lo2 u xs v vs y a b (ks ++ [x]) q' k w2 := by
  have h1 := h.hN; have h2 := h.hx; have h3 := h.hl; have h4 := h.hp; have h5 := h.gr.size
  have hq : ∀ j, q.ownBlock = some j → lo2 ≤ j := fun j hj => (h.row.lt j hj).1
  have hon : Only (fun b => b = p ∨ N ≤ b) wr w2 := (Only.of_grown hg).mono (fun j hj => .inr (by have := hq j hj; omega))
  have hb : Below W.heap.size wr w2 := (Only.of_grown hg).below (fun j hj => by have := hq j hj; omega) h5
  refine ⟨h.cur.low hb h4, grown_low h.gr hb, h.fx.keep hon, h.box.grown hg (fun e => by have := hq xb e.symm; omega), h.it.turn hon (fun b hb _ => hb) (fun b hb _ => hb), h.dy, ?_, h1, h2, h3, h4, Nat.le_trans h.los hg.size⟩
  rw [cells1_append, List.length_append]; exact ho
/-- Another approval in the box. -/
theorem turn (h : TRel W E EI N p xb lo2 u xs v vs y a b ks q k wr) (hw : Only (fun j => j = xb) wr w2) (box : Blk w2 xb (row6 y' a' b')) (it : StI (fun b => b = p ∨ N ≤ b) wr a' y'.items) (dy : dsA y') : TRel W E EI N p xb lo2 u xs v vs y' a' b' ks q k w2 := by
  have h1 := h.hN; have h2 := h.hx; have h3 := h.hl; have h4 := h.hp; have h5 := h.gr.size
  have hon : Only (fun b => b = p ∨ N ≤ b) wr w2 := hw.mono (fun j hj => .inr (by have hj : j = xb := hj; omega))
  have hb : Below W.heap.size wr w2 := hw.below (fun j hj => by have hj : j = xb := hj; omega) h5
  exact ⟨h.cur.low hb h4, grown_low h.gr hb, h.fx.keep hon, box, it.turn hon (fun b hb _ => hb) (fun b hb _ => hb), dy, own_only h.row hw (fun j hj e => by have := (h.row.lt j hj).1; have e : j = xb := e; omega), h1, h2, h3, h4, Nat.le_trans h.los hw.size⟩
end TRel

def RetA1 (W : World) : Ending → World → Prop := fun e w' => ∃ v xs, e = .returned v ∧ LstA w' v xs ∧ Below W.heap.size W w'
def RetA2 (W : World) : Ending → World → Prop := fun e w' => ∃ v xs a, e = .returned (.tuple #[v, .int .i64 a]) ∧ LstA w' v xs ∧ Below W.heap.size W w'
def RetA2s (W : World) : Ending → World → Prop := fun e w' => ∃ v xs s, e = .returned (.tuple #[v, .string s]) ∧ s.size ≤ 10 ∧ LstA w' v xs ∧ Below W.heap.size W w'
def RetA3 (W : World) : Ending → World → Prop := fun e w' => ∃ v xs a b, e = .returned (.tuple #[v, .int .i64 a, .int .i64 b]) ∧ LstA w' v xs ∧ Below W.heap.size W w'
def RetASI (W : World) : Ending → World → Prop := fun e w' => ∃ v xs s d A c ks, e = .returned (.tuple #[v, .string s, .int .i64 d, .slice A ks.length c]) ∧ s.size ≤ 10 ∧ LstA w' v xs ∧ Rd w' A (cells1 ks) ∧ ks.length ≤ 10 ∧ (ks.length ≤ c ∧ c ≤ maxLen) ∧ Below W.heap.size W w'
def RetATB (W : World) : Ending → World → Prop := fun e w' => ∃ v xs a b A c ks, e = .returned (.tuple #[v, .int .i64 a, .int .i64 b, .slice A ks.length c]) ∧ LstA w' v xs ∧ Rd w' A (cells1 ks) ∧ ks.length ≤ 10 ∧ (ks.length ≤ c ∧ c ≤ maxLen) ∧ Below W.heap.size W w'

set_option maxRecDepth 20000 in
set_option maxHeartbeats 8000000 in
theorem drawBoughtBy_any (B : Option Addr) (n c : Nat) (zs : List Int) (w : World) (hn : zs.length = n) (hB : Bytes w B zs) :
    Calls Tryd.prog 5 #[.slice B n c] w (RetA2s w) := by
  subst hn
  have HC0 := Lib.hid (CurB.new hB c 49)
  obtain ⟨u, hu⟩ : ∃ u : Cu, u = ⟨B, c, zs⟩ := ⟨_, rfl⟩
  rw [← hu] at HC0
  clear hu hB
  obtain ⟨p, hp⟩ : ∃ p, p = w.heap.size := ⟨_, rfl⟩
  have HP := Lib.hid hp
  have LS := Lib.hid (fun k w h hk => approvals28_any p k u w h hk)
  have CA := Lib.hid (fun k w h hk => clientAsk_any p k u w h hk)
  have AM := Lib.hid (fun k n c A zs w h hk hz hn hn2 hA hf => among_any p k n c u A zs w h hk hz hn hn2 hA hf)
  have PK := Lib.hid (fun k m w h hk hm hm2 => pick_any p k m u w h hk hm hm2)
  have ON := Lib.hid (fun k m w h hk hm hm2 => one_any p k m u w h hk hm hm2)
  have HC1 : Hid (CurB (w.alloc (.cells #[.slice B zs.length c, .int .i64 0, .int .u64 0] 49)) p u 0) := Lib.hid (by rw [hp]; exact HC0.out)
  have HBW : Hid (w.grownBy (w.alloc (.cells #[.slice B zs.length c, .int .i64 0, .int .u64 0] 49)) (some p)) := Lib.hid (World.grownBy_alloc w _ _)
  have hp1 : p < (w.alloc (.cells #[.slice B zs.length c, .int .i64 0, .int .u64 0] 49)).heap.size := by rw [hp]; simp
  clear HC0 hp
  go_enter Tryd.func5, Tryd.ntmps5
  go_wp2_with fail
  rw [← HP.out]
  refine (LS.out 0 _ HC1.out (by omega)).mono ?_
  rintro e w1 ⟨v1, xs, vs, k1, rfl, hL, hx, hk1⟩
  have HL1 := Lib.hid hL
  obtain ⟨A, ca, rfl⟩ := own_form hL.own.row
  have hs1 := hL.sz
  clear hL HC1
  go_wp2_with fail
  refine (CA.out k1 _ HL1.out.cur (by omega)).mono ?_
  rintro e w2 ⟨v2, k2, rfl, ⟨s2, rfl, hsz2⟩, hk2, hc, hg⟩
  have HL2 := Lib.hid (HL1.out.call hp1 hc hg)
  have hs2 := HL2.out.sz
  clear hc hg HL1
  go_wp2
  refine bodyPost_ret (v := .tuple #[.slice A xs.length ca, .string s2]) (by simp [results, Tryd.results5, go_sem]) rfl ?_
  exact ⟨_, xs, s2, rfl, hsz2, LstA.of HL2.out.own hx, (Below.refl _ _).grown (grown_trans HBW.out HL2.out.gr) (Nat.le_refl _) (fun k hk => by injection hk with hk; have := HP.out; omega)⟩
set_option maxRecDepth 20000 in
set_option maxHeartbeats 8000000 in
theorem drawOverdueIds_any (B : Option Addr) (n c : Nat) (zs : List Int) (w : World) (hn : zs.length = n) (hB : Bytes w B zs) :
    Calls Tryd.prog 14 #[.slice B n c] w (RetA3 w) := by
  subst hn
  have HC0 := Lib.hid (CurB.new hB c 49)
  obtain ⟨u, hu⟩ : ∃ u : Cu, u = ⟨B, c, zs⟩ := ⟨_, rfl⟩
  rw [← hu] at HC0
  clear hu hB
  obtain ⟨p, hp⟩ : ∃ p, p = w.heap.size := ⟨_, rfl⟩
  have HP := Lib.hid hp
  have LS := Lib.hid (fun k w h hk => approvals28_any p k u w h hk)
  have DY := Lib.hid (fun k w A n c xs hn hx hA h hk => approvalDay_any p k u w A n c xs hn hx hA h hk)
  have AM := Lib.hid (fun k n c A zs w h hk hz hn hn2 hA hf => among_any p k n c u A zs w h hk hz hn hn2 hA hf)
  have PK := Lib.hid (fun k m w h hk hm hm2 => pick_any p k m u w h hk hm hm2)
  have ON := Lib.hid (fun k m w h hk hm hm2 => one_any p k m u w h hk hm hm2)
  have HC1 : Hid (CurB (w.alloc (.cells #[.slice B zs.length c, .int .i64 0, .int .u64 0] 49)) p u 0) := Lib.hid (by rw [hp]; exact HC0.out)
  have HBW : Hid (w.grownBy (w.alloc (.cells #[.slice B zs.length c, .int .i64 0, .int .u64 0] 49)) (some p)) := Lib.hid (World.grownBy_alloc w _ _)
  have hp1 : p < (w.alloc (.cells #[.slice B zs.length c, .int .i64 0, .int .u64 0] 49)).heap.size := by rw [hp]; simp
  clear HC0 hp
  go_enter Tryd.func14, Tryd.ntmps14
  go_wp2_with fail
  rw [← HP.out]
  refine (LS.out 0 _ HC1.out (by omega)).mono ?_
  rintro e w1 ⟨v1, xs, vs, k1, rfl, hL, hx, hk1⟩
  have HL1 := Lib.hid hL
  obtain ⟨A, ca, rfl⟩ := own_form hL.own.row
  have hs1 := hL.sz
  clear hL HC1
  go_wp2_with fail
  refine (DY.out k1 _ A xs.length ca xs rfl hx (fun w' hw => (HL1.out.own.keep hp1 hw).rd2) HL1.out.cur (by omega)).mono ?_
  rintro e w2 ⟨v2, k2, rfl, ⟨z2, rfl⟩, hk2, hc, hg⟩
  have HL2 := Lib.hid (HL1.out.call hp1 hc hg)
  have hs2 := HL2.out.sz
  clear hc hg HL1
  go_wp2_with fail
  refine (PK.out k2 24 _ (HL2.out.cur.alloc _) (by omega) (by decide) (by decide)).mono ?_
  rintro e w3 ⟨v3, k3, rfl, ⟨r3, rfl, a3, b3⟩, hk3, hc, hg⟩
  have HL3 := Lib.hid ((HL2.out.below hp1 ((Below.refl _ _).alloc (Nat.le_refl _) _)).call hp1 hc hg)
  have RD3 : Hid (Rd w3 (some ⟨w2.heap.size, 0, none⟩) (cells1 [0, 1, 10, 11, 4000, -1, 4001])) := Lib.hid (Rd.grown hg (rd_ints (w := w2) [0, 1, 10, 11, 4000, -1, 4001] 3) (fun g o q e => by injection e with e; injection e with e e2 e3; intro e4; injection e4 with e4; omega))
  obtain ⟨q3, hq3, hq23⟩ : ∃ q : Nat, r3.tdiv 11 = (q : Int) ∧ q ≤ 2 := ⟨(r3.tdiv 11).toNat, by rw [Int.toNat_of_nonneg]; rw [Int.tdiv_eq_ediv_of_nonneg (by omega)]; omega, by rw [Int.tdiv_eq_ediv_of_nonneg (by omega)]; omega⟩
  obtain ⟨m3, hm3⟩ : ∃ m, m = 5 + q3 := ⟨_, rfl⟩
  have hwq3 : IntKind.i64.wrap (q3 : Int) = (q3 : Int) := IntWalk.i64_in _ (by omega)
  have hwm3 : IntKind.i64.wrap (5 + (q3 : Int)) = (m3 : Int) := by rw [IntWalk.i64_in _ (by omega)]; omega
  have hma3 : 1 ≤ m3 := by omega
  have hmb3 : m3 ≤ 7 := by omega
  have hm03 : (0 : Int) ≤ (m3 : Int) := by omega
  have hmc3 : (m3 : Int) ≤ 7 := by omega
  have hsz3 : w2.heap.size ≤ w3.heap.size := by have := hg.size; simp at this; omega
  clear hc hg HL2 hm3 a3 b3
  go_wp2_with fail
  refine (AM.out k3 m3 _ (some ⟨w2.heap.size, 0, none⟩) ([0, 1, 10, 11, 4000, -1, 4001].take m3) _ HL3.out.cur (by omega) (by simp; omega) (by omega) (by omega) (rd_take1 RD3.out m3) (fun g o q e => by injection e with e; injection e with e e2 e3; omega)).mono ?_
  rintro e w4 ⟨v4, k4, rfl, ⟨z4, -, rfl⟩, hk4, hc, hg⟩
  have HL4 := Lib.hid (HL3.out.call hp1 hc hg)
  have hs4 := HL4.out.sz
  clear hc hg HL3 RD3
  go_wp2
  refine bodyPost_ret (v := .tuple #[.slice A xs.length ca, .int .i64 z2, .int .i64 z4]) (by simp [results, Tryd.results14, go_sem]) rfl ?_
  exact ⟨_, xs, z2, z4, rfl, LstA.of HL4.out.own hx, (Below.refl _ _).grown (grown_trans HBW.out HL4.out.gr) (Nat.le_refl _) (fun k hk => by injection hk with hk; have := HP.out; omega)⟩
end Go.Proofs.YtehohkdipfphmaaDoor
