/- What the law on treaties draws. -/
import Derived.Test.YtnaehlglpaadhaaDoorTrtU
namespace Go.Proofs.YtnaehlglpaadhaaDoor
set_option linter.unusedVariables false
set_option linter.unusedSimpArgs false
open Go.RowKit

/-- The bytes that a law was handed. -/
structure Bytes (w : World) (B : Option Addr) (zs : List Int) : Prop where
  rd : Rd w B (cellsU zs)
  byte : ∀ z ∈ zs, 0 ≤ z ∧ z ≤ 255
  len : zs.length ≤ 65536
theorem Bytes.below {w w' : World} {B : Option Addr} {zs : List Int} (h : Bytes w B zs) (hb : Below w.heap.size w w') : Bytes w' B zs := ⟨h.rd.below hb, h.byte, h.len⟩
theorem CurB.new {w : World} {B : Option Addr} {zs : List Int} (h : Bytes w B zs) (c : Nat) (t : TypeId) :
    CurB (w.alloc (.cells #[.slice B zs.length c, .int .i64 0, .int .u64 0] t)) w.heap.size ⟨B, c, zs⟩ 0 := by
  refine ⟨⟨0, Blk.new w _ t⟩, h.rd.alloc _, fun h0 g o q e => ?_, h.byte, h.len⟩
  rcases h.rd with hd | ⟨g', o', e', hlt, -⟩
  · exact absurd (by simpa [cellsU] using hd) h0
  · rw [e'] at e; injection e with e; injection e with e; omega
/-- The list that a draw returns: it reads as xs. -/
structure Lst (w : World) (v : Value) (xs : List R5) : Prop where
  form : ∃ A c, v = .slice A xs.length c ∧ Rd w A (cells5 xs) ∧ xs.length ≤ c ∧ c ≤ maxLen
  len : xs.length ≤ 22
theorem Lst.of {w : World} {base e : Nat} {v : Value} {xs : List R5} (h : w.ownsRow base e 5 v xs.length (cells5 xs)) (hl : xs.length ≤ 22) : Lst w v xs := by
  obtain ⟨A, c, rfl⟩ := own_form h
  exact ⟨⟨A, c, rfl, Rd.of_own h, (own_capS h).1, (own_capS h).2⟩, hl⟩
theorem Lst.below {w w' : World} {v : Value} {xs : List R5} (h : Lst w v xs) (hb : Below w.heap.size w w') : Lst w' v xs := by
  obtain ⟨⟨A, c, e, r, h1, h2⟩, hl⟩ := h
  exact ⟨⟨A, c, e, r.below hb, h1, h2⟩, hl⟩
structure LstI (w : World) (v : Value) (zs : List Int) : Prop where
  form : ∃ A c, v = .slice A zs.length c ∧ Rd w A (cells1 zs) ∧ zs.length ≤ c ∧ c ≤ maxLen
  len : zs.length ≤ 10
theorem LstI.below {w w' : World} {v : Value} {zs : List Int} (h : LstI w v zs) (hb : Below w.heap.size w w') : LstI w' v zs := by
  obtain ⟨⟨A, c, e, r, h1, h2⟩, hl⟩ := h
  exact ⟨⟨A, c, e, r.below hb, h1, h2⟩, hl⟩
def RetD4 (W : World) : Ending → World → Prop := fun e w' => ∃ v xs a b d, e = .returned (.tuple #[v, .int .i64 a, .int .i64 b, .int .i64 d]) ∧ Lst w' v xs ∧ Below W.heap.size W w'
def RetDS (W : World) : Ending → World → Prop := fun e w' => ∃ v xs v2 zs d g, e = .returned (.tuple #[v, v2, .int .i64 d, .int .i64 g]) ∧ Lst w' v xs ∧ LstI w' v2 zs ∧ Below W.heap.size W w'

set_option maxRecDepth 20000 in
set_option maxHeartbeats 2000000 in
theorem drawInForce_any (B : Option Addr) (n c : Nat) (zs : List Int) (w : World) (hn : zs.length = n) (hB : Bytes w B zs) :
    Calls Tryd.prog 22 #[.slice B n c] w (RetD4 w) := by
  subst hn
  have HC0 := Lib.hid (CurB.new hB c 56)
  obtain ⟨u, hu⟩ : ∃ u : Cu, u = ⟨B, c, zs⟩ := ⟨_, rfl⟩
  rw [← hu] at HC0
  clear hu hB
  obtain ⟨p, hp⟩ : ∃ p, p = w.heap.size := ⟨_, rfl⟩
  have HP := Lib.hid hp
  have TR := Lib.hid (fun k w h hk => treaties_any p k u w h hk)
  have PO := Lib.hid (fun k w h hk => post_any p k u w h hk)
  have TD := Lib.hid (fun k w h hk => treatyDay_any p k u w h hk)
  have HC1 : Hid (CurB (w.alloc (.cells #[.slice B zs.length c, .int .i64 0, .int .u64 0] 56)) p u 0) := Lib.hid (by rw [hp]; exact HC0.out)
  clear HC0
  have HBW : Hid (w.grownBy (w.alloc (.cells #[.slice B zs.length c, .int .i64 0, .int .u64 0] 56)) (some p)) := Lib.hid (World.grownBy_alloc w _ _)
  clear hp
  go_enter Tryd.func22, Tryd.ntmps22
  go_wp2_with fail
  rw [← HP.out]
  refine (TR.out 0 _ HC1.out (by omega)).mono ?_
  rintro e w1 ⟨v1, xs, k1, rfl, o1, hx, hk1, hc, hg⟩
  have hp1 : p < (w.alloc (.cells #[.slice B zs.length c, .int .i64 0, .int .u64 0] 56)).heap.size := by rw [HP.out]; simp
  have HO1 := Lib.hid o1
  have HG1 := Lib.hid (grown_trans HBW.out hg)
  have HC := Lib.hid hc
  clear o1 hc hg HC1 HBW
  go_wp2_with fail
  refine (PO.out k1 _ HC.out (by omega)).mono ?_
  rintro e w2 ⟨v2, k2, rfl, ⟨z2, rfl⟩, hk2, hc, hg⟩
  have HO2 := Lib.hid (own_grown HO1.out hg hp1)
  have HG2 := Lib.hid (grown_trans HG1.out hg)
  clear HC
  have HC := Lib.hid hc
  clear hc hg HO1 HG1
  go_wp2_with fail
  refine (PO.out k2 _ HC.out (by omega)).mono ?_
  rintro e w3 ⟨v3, k3, rfl, ⟨z3, rfl⟩, hk3, hc, hg⟩
  have HO3 := Lib.hid (own_grown HO2.out hg hp1)
  have HG3 := Lib.hid (grown_trans HG2.out hg)
  clear HC
  have HC := Lib.hid hc
  clear hc hg HO2 HG2
  go_wp2_with fail
  refine (TD.out k3 _ HC.out (by omega)).mono ?_
  rintro e w4 ⟨v4, k4, rfl, ⟨z4, rfl⟩, hk4, hc, hg⟩
  have HO4 := Lib.hid (own_grown HO3.out hg hp1)
  have HG4 := Lib.hid (grown_trans HG3.out hg)
  clear HC
  have HC := Lib.hid hc
  clear hc hg HO3 HG3
  go_wp2
  refine bodyPost_ret (v := .tuple #[v1, .int .i64 z2, .int .i64 z3, .int .i64 z4]) (by simp [results, Tryd.results22, go_sem]) rfl ?_
  exact ⟨v1, xs, z2, z3, z4, rfl, Lst.of HO4.out hx, (Below.refl _ _).grown HG4.out (Nat.le_refl _) (fun k hk => by injection hk with hk; have := HP.out; omega)⟩

def RetD2 (W : World) : Ending → World → Prop := fun e w' => ∃ v xs a, e = .returned (.tuple #[v, .int .i64 a]) ∧ Lst w' v xs ∧ Below W.heap.size W w'
def RetD3 (W : World) : Ending → World → Prop := fun e w' => ∃ v xs a b, e = .returned (.tuple #[v, .int .i64 a, .int .i64 b]) ∧ Lst w' v xs ∧ Below W.heap.size W w'
def RetDX (W : World) : Ending → World → Prop := fun e w' => ∃ v xs, ∃ x : R5, e = .returned (.tuple #[v, .agg #[.int .i64 x.a, .int .i64 x.b, .int .i64 x.c, .int .i64 x.d, .int .i64 x.e]]) ∧ Lst w' v xs ∧ Below W.heap.size W w'
def RetDT (W : World) : Ending → World → Prop := fun e w' => ∃ x : R5, e = .returned (.agg #[.int .i64 x.a, .int .i64 x.b, .int .i64 x.c, .int .i64 x.d, .int .i64 x.e]) ∧ Below W.heap.size W w'

set_option maxRecDepth 20000 in
set_option maxHeartbeats 2000000 in
theorem drawPartnersOf_any (B : Option Addr) (n c : Nat) (zs : List Int) (w : World) (hn : zs.length = n) (hB : Bytes w B zs) :
    Calls Tryd.prog 5 #[.slice B n c] w (RetD3 w) := by
  subst hn
  have HC0 := Lib.hid (CurB.new hB c 56)
  obtain ⟨u, hu⟩ : ∃ u : Cu, u = ⟨B, c, zs⟩ := ⟨_, rfl⟩
  rw [← hu] at HC0
  clear hu hB
  obtain ⟨p, hp⟩ : ∃ p, p = w.heap.size := ⟨_, rfl⟩
  have HP := Lib.hid hp
  have TR := Lib.hid (fun k w h hk => treaties_any p k u w h hk)
  have PO := Lib.hid (fun k w h hk => post_any p k u w h hk)
  have TD := Lib.hid (fun k w h hk => treatyDay_any p k u w h hk)
  have HC1 : Hid (CurB (w.alloc (.cells #[.slice B zs.length c, .int .i64 0, .int .u64 0] 56)) p u 0) := Lib.hid (by rw [hp]; exact HC0.out)
  clear HC0
  have HBW : Hid (w.grownBy (w.alloc (.cells #[.slice B zs.length c, .int .i64 0, .int .u64 0] 56)) (some p)) := Lib.hid (World.grownBy_alloc w _ _)
  clear hp
  go_enter Tryd.func5, Tryd.ntmps5
  go_wp2_with fail
  rw [← HP.out]
  refine (TR.out 0 _ HC1.out (by omega)).mono ?_
  rintro e w1 ⟨v1, xs, k1, rfl, o1, hx, hk1, hc, hg⟩
  have hp1 : p < (w.alloc (.cells #[.slice B zs.length c, .int .i64 0, .int .u64 0] 56)).heap.size := by rw [HP.out]; simp
  have HO1 := Lib.hid o1
  have HG1 := Lib.hid (grown_trans HBW.out hg)
  have HC := Lib.hid hc
  clear o1 hc hg HC1 HBW
  go_wp2_with fail
  refine (PO.out k1 _ HC.out (by omega)).mono ?_
  rintro e w2 ⟨v2, k2, rfl, ⟨z2, rfl⟩, hk2, hc, hg⟩
  have HO2 := Lib.hid (own_grown HO1.out hg hp1)
  have HG2 := Lib.hid (grown_trans HG1.out hg)
  clear HC
  have HC := Lib.hid hc
  clear hc hg HO1 HG1
  go_wp2_with fail
  refine (TD.out k2 _ HC.out (by omega)).mono ?_
  rintro e w3 ⟨v3, k3, rfl, ⟨z3, rfl⟩, hk3, hc, hg⟩
  have HO3 := Lib.hid (own_grown HO2.out hg hp1)
  have HG3 := Lib.hid (grown_trans HG2.out hg)
  clear HC
  have HC := Lib.hid hc
  clear hc hg HO2 HG2
  go_wp2
  refine bodyPost_ret (v := .tuple #[v1, .int .i64 z2, .int .i64 z3]) (by simp [results, Tryd.results5, go_sem]) rfl ?_
  exact ⟨v1, xs, z2, z3, rfl, Lst.of HO3.out hx, (Below.refl _ _).grown HG3.out (Nat.le_refl _) (fun k hk => by injection hk with hk; have := HP.out; omega)⟩

set_option maxRecDepth 20000 in
set_option maxHeartbeats 2000000 in
theorem drawPostGroups_any (B : Option Addr) (n c : Nat) (zs : List Int) (w : World) (hn : zs.length = n) (hB : Bytes w B zs) :
    Calls Tryd.prog 10 #[.slice B n c] w (RetD2 w) := by
  subst hn
  have HC0 := Lib.hid (CurB.new hB c 56)
  obtain ⟨u, hu⟩ : ∃ u : Cu, u = ⟨B, c, zs⟩ := ⟨_, rfl⟩
  rw [← hu] at HC0
  clear hu hB
  obtain ⟨p, hp⟩ : ∃ p, p = w.heap.size := ⟨_, rfl⟩
  have HP := Lib.hid hp
  have TR := Lib.hid (fun k w h hk => treaties_any p k u w h hk)
  have PO := Lib.hid (fun k w h hk => post_any p k u w h hk)
  have TD := Lib.hid (fun k w h hk => treatyDay_any p k u w h hk)
  have HC1 : Hid (CurB (w.alloc (.cells #[.slice B zs.length c, .int .i64 0, .int .u64 0] 56)) p u 0) := Lib.hid (by rw [hp]; exact HC0.out)
  clear HC0
  have HBW : Hid (w.grownBy (w.alloc (.cells #[.slice B zs.length c, .int .i64 0, .int .u64 0] 56)) (some p)) := Lib.hid (World.grownBy_alloc w _ _)
  clear hp
  go_enter Tryd.func10, Tryd.ntmps10
  go_wp2_with fail
  rw [← HP.out]
  refine (TR.out 0 _ HC1.out (by omega)).mono ?_
  rintro e w1 ⟨v1, xs, k1, rfl, o1, hx, hk1, hc, hg⟩
  have hp1 : p < (w.alloc (.cells #[.slice B zs.length c, .int .i64 0, .int .u64 0] 56)).heap.size := by rw [HP.out]; simp
  have HO1 := Lib.hid o1
  have HG1 := Lib.hid (grown_trans HBW.out hg)
  have HC := Lib.hid hc
  clear o1 hc hg HC1 HBW
  go_wp2_with fail
  refine (TD.out k1 _ HC.out (by omega)).mono ?_
  rintro e w2 ⟨v2, k2, rfl, ⟨z2, rfl⟩, hk2, hc, hg⟩
  have HO2 := Lib.hid (own_grown HO1.out hg hp1)
  have HG2 := Lib.hid (grown_trans HG1.out hg)
  clear HC
  have HC := Lib.hid hc
  clear hc hg HO1 HG1
  go_wp2
  refine bodyPost_ret (v := .tuple #[v1, .int .i64 z2]) (by simp [results, Tryd.results10, go_sem]) rfl ?_
  exact ⟨v1, xs, z2, rfl, Lst.of HO2.out hx, (Below.refl _ _).grown HG2.out (Nat.le_refl _) (fun k hk => by injection hk with hk; have := HP.out; omega)⟩

end Go.Proofs.YtnaehlglpaadhaaDoor
