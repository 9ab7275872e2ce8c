/- What the law on insurances draws. -/
import Derived.Test.YtcibibkainablaaCurK
namespace Go.Proofs.Ytcibibkainablaa
set_option linter.unusedVariables false
set_option linter.unusedSimpArgs false
open Go.RowKit

theorem own_far {w : World} {base e n c : Nat} {A : Option Addr} {cs : List Value} (h : w.ownsRow base e 5 (.slice A n c) n cs) {p : Nat} (hp : p < base) : ∀ g o q, A = some ⟨g, o, q⟩ → g ≠ p := fun g o q e' => by
  subst e'
  have := (h.lt g rfl).1
  omega
theorem own_beside {w w' : World} {base e n q : Nat} {v : Value} {cs : List Value} (h : w.ownsRow base e 5 v n cs) (hg : w.grownBy w' (some q)) (hA : ∀ b, v.ownBlock = some b → q < b) : w'.ownsRow base e 5 v n cs :=
  h.kept hg (by
    rcases hb : v.ownBlock with _ | b
    · exact .inl rfl
    · right
      intro e'
      injection e' with e'
      have := hA b hb
      omega)
def RetD4 (W : World) : Ending → World → Prop := fun e w' => ∃ v xs a b d, e = .returned (.tuple #[v, .int .i64 a, .int .i64 b, .int .i64 d]) ∧ Lst w' v xs ∧ Below W.heap.size W w'
def RetDA (W : World) : Ending → World → Prop := fun e w' => ∃ (v : Value) (xs : List R5) (x : R5), e = .returned (.tuple #[v, .agg #[.int .i64 x.a, .int .i64 x.b, .int .i64 x.c, .int .i64 x.d, .int .i64 x.e]]) ∧ w'.ownsRow W.heap.size 26 5 v xs.length (cells5 xs) ∧ xs.length ≤ 22 ∧ Below W.heap.size W w'

set_option maxRecDepth 20000 in
set_option maxHeartbeats 2000000 in
theorem drawPaidFor_any (B : Option Addr) (n c : Nat) (zs : List Int) (w : World) (hn : zs.length = n) (hB : Bytes w B zs) :
    Calls Try.prog 40 #[.slice B n c] w (RetD4 w) := by
  subst hn
  have HC0 := Lib.hid (CurB.new hB c 51)
  obtain ⟨u, hu⟩ : ∃ u : Cu, u = ⟨B, c, zs⟩ := ⟨_, rfl⟩
  rw [← hu] at HC0
  clear hu hB
  obtain ⟨p, hp⟩ : ∃ p, p = w.heap.size := ⟨_, rfl⟩
  have HP := Lib.hid hp
  have TR := Lib.hid (fun k w h hk => insureds26_any p k u w h hk)
  have IT := Lib.hid (fun k w A n c xs hn hx hA hf h hk => item26_any p k u w A n c xs hn hx hA hf h hk)
  have DY := Lib.hid (fun k w A n c xs hn hx hA hf h hk => day26_any p k u w A n c xs hn hx hA hf h hk)
  have WO := Lib.hid (fun k w h hk => worth26_any p k u w h hk)
  have II := Lib.hid (fun k a b w h hk => insured26_any p k u a b w h hk)
  have MO := Lib.hid (fun a b w => l1MostE a b w)
  have HC1 : Hid (CurB (w.alloc (.cells #[.slice B zs.length c, .int .i64 0, .int .u64 0] 51)) p u 0) := Lib.hid (by rw [hp]; exact HC0.out)
  have HBW : Hid (w.grownBy (w.alloc (.cells #[.slice B zs.length c, .int .i64 0, .int .u64 0] 51)) (some p)) := Lib.hid (World.grownBy_alloc w _ _)
  clear HC0 hp
  go_enter Try.func40, Try.ntmps40
  go_wp2_with fail
  rw [← HP.out]
  refine (TR.out 0 _ HC1.out (by omega)).mono ?_
  rintro e w1 ⟨v1, xs, k1, rfl, o1, hx, hk1, hc, hg⟩
  have hp1 : p < (w.alloc (.cells #[.slice B zs.length c, .int .i64 0, .int .u64 0] 51)).heap.size := by rw [HP.out]; simp
  obtain ⟨A, ca, rfl⟩ := own_form o1
  have HO1 := Lib.hid o1
  have HG1 := Lib.hid (grown_trans HBW.out hg)
  have HC := Lib.hid hc
  clear o1 hc hg HC1 HBW
  go_wp2_with fail
  refine (IT.out k1 _ A xs.length ca xs rfl hx (Rd.of_own HO1.out) (own_far HO1.out hp1) HC.out (by omega)).mono ?_
  rintro e w2 ⟨v2, k2, rfl, ⟨z2, rfl⟩, hk2, hc, hg⟩
  have HO2 := Lib.hid (own_grown HO1.out hg hp1)
  have HG2 := Lib.hid (grown_trans HG1.out hg)
  clear HC
  have HC := Lib.hid hc
  clear hc hg HO1 HG1
  go_wp2_with fail
  refine (DY.out k2 _ A xs.length ca xs rfl hx (Rd.of_own HO2.out) (own_far HO2.out hp1) HC.out (by omega)).mono ?_
  rintro e w3 ⟨v3, k3, rfl, ⟨z3, rfl⟩, hk3, hc, hg⟩
  have HO3 := Lib.hid (own_grown HO2.out hg hp1)
  have HG3 := Lib.hid (grown_trans HG2.out hg)
  clear HC
  have HC := Lib.hid hc
  clear hc hg HO2 HG2
  go_wp2_with fail
  refine (WO.out k3 _ HC.out (by omega)).mono ?_
  rintro e w4 ⟨v4, k4, rfl, ⟨z4, rfl⟩, hk4, hc, hg⟩
  have HO4 := Lib.hid (own_grown HO3.out hg hp1)
  have HG4 := Lib.hid (grown_trans HG3.out hg)
  clear HC
  have HC := Lib.hid hc
  clear hc hg HO3 HG3
  go_wp2
  refine bodyPost_ret (v := .tuple #[.slice A xs.length ca, .int .i64 z2, .int .i64 z3, .int .i64 z4]) (by simp [results, Try.results40, go_sem]) rfl ?_
  exact ⟨_, xs, z2, z3, z4, rfl, Lst.of HO4.out hx, (Below.refl _ _).grown HG4.out (Nat.le_refl _) (fun k hk => by injection hk with hk; have := HP.out; omega)⟩

set_option maxHeartbeats 2000000 in
theorem drawPartsPaid_any (B : Option Addr) (n c : Nat) (zs : List Int) (w : World) (hn : zs.length = n) (hB : Bytes w B zs) :
    Calls Try.prog 11 #[.slice B n c] w (RetD4 w) := by
  have C := Lib.hid (drawPaidFor_any B n c zs w hn hB)
  clear hB hn
  go_enter Try.func11, Try.ntmps11
  go_wp2_with fail
  refine C.out.mono ?_
  rintro e w1 ⟨v1, xs, a, b, d, rfl, hl, hb⟩
  go_wp2
  refine bodyPost_ret (v := .tuple #[v1, .int .i64 a, .int .i64 b, .int .i64 d]) (by simp [results, Try.results11, go_sem]) rfl ⟨v1, xs, a, b, d, rfl, hl, hb⟩

set_option maxRecDepth 20000 in
set_option maxHeartbeats 4000000 in
theorem drawAddInsurance_any (B : Option Addr) (n c : Nat) (zs : List Int) (w : World) (hn : zs.length = n) (hB : Bytes w B zs) :
    Calls Try.prog 5 #[.slice B n c] w (RetDA w) := by
  subst hn
  have hB := hB.below ((Below.refl _ _).alloc (Nat.le_refl _) (.cells #[.int .i64 0, .int .i64 0, .int .i64 0, .int .i64 0, .int .i64 0] 26))
  have HC0 := Lib.hid (CurB.new hB c 51)
  obtain ⟨u, hu⟩ : ∃ u : Cu, u = ⟨B, c, zs⟩ := ⟨_, rfl⟩
  rw [← hu] at HC0
  clear hu hB
  obtain ⟨p, hp⟩ : ∃ p, p = w.heap.size + 1 := ⟨_, rfl⟩
  have HP := Lib.hid hp
  have TR := Lib.hid (fun k w h hk => insureds26_any p k u w h hk)
  have IT := Lib.hid (fun k w A n c xs hn hx hA hf h hk => item26_any p k u w A n c xs hn hx hA hf h hk)
  have DY := Lib.hid (fun k w A n c xs hn hx hA hf h hk => day26_any p k u w A n c xs hn hx hA hf h hk)
  have WO := Lib.hid (fun k w h hk => worth26_any p k u w h hk)
  have II := Lib.hid (fun k a b w h hk => insured26_any p k u a b w h hk)
  have MO := Lib.hid (fun a b w => l1MostE a b w)
  have HC1 : Hid (CurB ((w.alloc (.cells #[.int .i64 0, .int .i64 0, .int .i64 0, .int .i64 0, .int .i64 0] 26)).alloc (.cells #[.slice B zs.length c, .int .i64 0, .int .u64 0] 51)) p u 0) := Lib.hid (by have h := HC0.out; rw [hp]; simpa using h)
  have KR : Hid (Blk ((w.alloc (.cells #[.int .i64 0, .int .i64 0, .int .i64 0, .int .i64 0, .int .i64 0] 26)).alloc (.cells #[.slice B zs.length c, .int .i64 0, .int .u64 0] 51)) w.heap.size [.int .i64 0, .int .i64 0, .int .i64 0, .int .i64 0, .int .i64 0]) := Lib.hid ((Blk.new w _ _).alloc _)
  have HBW : Hid (w.grownBy ((w.alloc (.cells #[.int .i64 0, .int .i64 0, .int .i64 0, .int .i64 0, .int .i64 0] 26)).alloc (.cells #[.slice B zs.length c, .int .i64 0, .int .u64 0] 51)) (some p)) := Lib.hid (grown_alloc (World.grownBy_alloc w _ _) _)
  clear HC0 hp
  go_enter Try.func5, Try.ntmps5
  go_wp2_with fail
  rw [← HP.out]
  refine (TR.out 0 _ HC1.out (by omega)).mono ?_
  rintro e w1 ⟨v1, xs, k1, rfl, o1, hx, hk1, hc, hg⟩
  have hp1 : p < ((w.alloc (.cells #[.int .i64 0, .int .i64 0, .int .i64 0, .int .i64 0, .int .i64 0] 26)).alloc (.cells #[.slice B zs.length c, .int .i64 0, .int .u64 0] 51)).heap.size := by rw [HP.out]; simp
  obtain ⟨A, ca, rfl⟩ := own_form o1
  have HO1 := Lib.hid o1
  have HG1 := Lib.hid (grown_trans HBW.out hg)
  have HC := Lib.hid hc
  have KR1 := Lib.hid (KR.out.grown hg (by rw [HP.out]; simp))
  clear o1 hc hg HC1 HBW KR
  go_wp2_with fail
  refine (IT.out k1 _ A xs.length ca xs rfl hx (Rd.of_own HO1.out) (own_far HO1.out hp1) HC.out (by omega)).mono ?_
  rintro e w2 ⟨v2, k2, rfl, ⟨z2, rfl⟩, hk2, hc, hg⟩
  have HO2 := Lib.hid (own_grown HO1.out hg hp1)
  have HG2 := Lib.hid (grown_trans HG1.out hg)
  have KR2 := Lib.hid (KR1.out.grown hg (by rw [HP.out]; simp))
  clear HC
  have HC := Lib.hid hc
  clear hc hg HO1 HG1 KR1
  go_wp2_with fail
  refine (DY.out k2 _ A xs.length ca xs rfl hx (Rd.of_own HO2.out) (own_far HO2.out hp1) HC.out (by omega)).mono ?_
  rintro e w3 ⟨v3, k3, rfl, ⟨z3, rfl⟩, hk3, hc, hg⟩
  have HO3 := Lib.hid (own_grown HO2.out hg hp1)
  have HG3 := Lib.hid (grown_trans HG2.out hg)
  have KR3 := Lib.hid (KR2.out.grown hg (by rw [HP.out]; simp))
  clear HC
  have HC := Lib.hid hc
  clear hc hg HO2 HG2 KR2
  go_wp2_with fail
  refine (MO.out _ _ _).mono ?_
  rintro e w9 ⟨⟨L, rfl⟩, rfl⟩
  go_wp2_with fail
  refine (II.out k3 z2 L _ HC.out (by omega)).mono ?_
  rintro e w4 ⟨v4, k4, rfl, ⟨x, rfl⟩, hk4, hc, hg⟩
  have HO4 := Lib.hid (own_grown HO3.out hg hp1)
  have HG4 := Lib.hid (grown_trans HG3.out hg)
  have KR4 := Lib.hid (KR3.out.grown hg (by rw [HP.out]; simp))
  clear HC
  have HC := Lib.hid hc
  clear hc hg HO3 HG3 KR3
  have rr0 := KR4.out.cell 0 _ rfl
  have rf0 := KR4.out.fr 0 (by simp)
  have rr1 := KR4.out.cell 1 _ rfl
  have rf1 := KR4.out.fr 1 (by simp)
  have rr2 := KR4.out.cell 2 _ rfl
  have rf2 := KR4.out.fr 2 (by simp)
  have rr3 := KR4.out.cell 3 _ rfl
  have rf3 := KR4.out.fr 3 (by simp)
  have rr4 := KR4.out.cell 4 _ rfl
  have rf4 := KR4.out.fr 4 (by simp)
  have hl4 := KR4.out.lt
  have hs1 : w.heap.size ≤ w4.heap.size := HG4.out.size
  go_wp2
  have hA : ∀ b, (Value.slice A xs.length ca).ownBlock = some b → w.heap.size < b := fun b hb => by have := (HO4.out.lt b hb).1; have h2 := HP.out; omega
  have key : ∀ (W : World) (q : Nat) (v : Value), W.ownsRow w.heap.size 26 5 (.slice A xs.length ca) xs.length (cells5 xs) → (W.setCell ⟨w.heap.size, q, none⟩ v).ownsRow w.heap.size 26 5 (.slice A xs.length ca) xs.length (cells5 xs) := fun W q v h => own_beside h (grown_cell W w.heap.size q v) hA
  have HOF := key _ 4 (.int .i64 x.e) (key _ 3 (.int .i64 x.d) (key _ 2 (.int .i64 x.c) (key _ 1 (.int .i64 x.b) (key _ 0 (.int .i64 x.a) (own_mono HO4.out (by have := HP.out; omega))))))
  have HGF := (grown_other (grown_other (grown_other (grown_other (grown_other HG4.out (Nat.le_refl _) 0 (.int .i64 x.a)) (Nat.le_refl _) 1 (.int .i64 x.b)) (Nat.le_refl _) 2 (.int .i64 x.c)) (Nat.le_refl _) 3 (.int .i64 x.d)) (Nat.le_refl _) 4 (.int .i64 x.e))
  refine bodyPost_ret (v := .tuple #[.slice A xs.length ca, .agg #[.int .i64 x.a, .int .i64 x.b, .int .i64 x.c, .int .i64 x.d, .int .i64 x.e]]) (by simp [results, Try.results5, go_sem, rr0, rr1, rr2, rr3, rr4]) rfl ?_
  exact ⟨_, xs, x, rfl, HOF, hx, (Below.refl _ _).grown HGF (Nat.le_refl _) (fun k hk => by injection hk with hk; have := HP.out; omega)⟩

end Go.Proofs.Ytcibibkainablaa
