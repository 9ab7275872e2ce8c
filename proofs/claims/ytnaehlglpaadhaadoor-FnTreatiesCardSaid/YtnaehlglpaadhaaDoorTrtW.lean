/- What the law on treaties draws: a treaty. -/
import Derived.Test.YtnaehlglpaadhaaDoorTrtV
namespace Go.Proofs.YtnaehlglpaadhaaDoor
set_option linter.unusedVariables false
set_option linter.unusedSimpArgs false
open Go.RowKit

theorem own_beside {w w' : World} {base e n q : Nat} {v : Value} {cs : List Value} (h : w.ownsRow base e 5 v n cs) (hg : w.grownBy w' (some q)) (hA : ∀ b, v.ownBlock = some b → q < b) : w'.ownsRow base e 5 v n cs :=
  h.kept hg (by
    rcases hb : v.ownBlock with _ | b
    · exact .inl rfl
    · right
      intro e'
      injection e' with e'
      have := hA b hb
      omega)

set_option maxRecDepth 20000 in
set_option maxHeartbeats 4000000 in
theorem drawTreatyText_any (B : Option Addr) (n c : Nat) (zs : List Int) (w : World) (hn : zs.length = n) (hB : Bytes w B zs) :
    Calls Tryd.prog 24 #[.slice B n c] w (RetDT w) := by
  subst hn
  have hB := hB.below ((Below.refl _ _).alloc (Nat.le_refl _) (.cells #[.int .i64 0, .int .i64 0, .int .i64 0, .int .i64 0, .int .i64 0] 44))
  have HC0 := Lib.hid (CurB.new hB c 56)
  obtain ⟨u, hu⟩ : ∃ u : Cu, u = ⟨B, c, zs⟩ := ⟨_, rfl⟩
  rw [← hu] at HC0
  clear hu hB
  obtain ⟨p, hp⟩ : ∃ p, p = w.heap.size + 1 := ⟨_, rfl⟩
  have HP := Lib.hid hp
  have TR := Lib.hid (fun k w h hk => treaties_any p k u w h hk)
  have TY := Lib.hid (fun k w h hk => treaty_any p k u w h hk)
  have HC1 : Hid (CurB ((w.alloc (.cells #[.int .i64 0, .int .i64 0, .int .i64 0, .int .i64 0, .int .i64 0] 44)).alloc (.cells #[.slice B zs.length c, .int .i64 0, .int .u64 0] 56)) p u 0) := Lib.hid (by have h := HC0.out; rw [hp]; simpa using h)
  have KR : Hid (Blk ((w.alloc (.cells #[.int .i64 0, .int .i64 0, .int .i64 0, .int .i64 0, .int .i64 0] 44)).alloc (.cells #[.slice B zs.length c, .int .i64 0, .int .u64 0] 56)) w.heap.size [.int .i64 0, .int .i64 0, .int .i64 0, .int .i64 0, .int .i64 0]) := Lib.hid ((Blk.new w _ _).alloc _)
  have HBW : Hid (w.grownBy ((w.alloc (.cells #[.int .i64 0, .int .i64 0, .int .i64 0, .int .i64 0, .int .i64 0] 44)).alloc (.cells #[.slice B zs.length c, .int .i64 0, .int .u64 0] 56)) (some p)) := Lib.hid (grown_alloc (World.grownBy_alloc w _ _) _)
  clear HC0 hp
  go_enter Tryd.func24, Tryd.ntmps24
  go_wp2_with fail
  rw [← HP.out]
  refine (TY.out 0 _ HC1.out (by omega)).mono ?_
  rintro e w4 ⟨v4, k4, rfl, ⟨x, rfl⟩, hk4, hc, hg⟩
  have HG4 := Lib.hid (grown_trans HBW.out hg)
  have KR4 := Lib.hid (KR.out.grown hg (by rw [HP.out]; simp))
  clear hc hg HC1 HBW KR
  have rr0 := KR4.out.cell 0 _ rfl
  have rf0 := KR4.out.fr 0 (by simp)
  have rr1 := KR4.out.cell 1 _ rfl
  have rf1 := KR4.out.fr 1 (by simp)
  have rr2 := KR4.out.cell 2 _ rfl
  have rf2 := KR4.out.fr 2 (by simp)
  have rr3 := KR4.out.cell 3 _ rfl
  have rf3 := KR4.out.fr 3 (by simp)
  have rr4 := KR4.out.cell 4 _ rfl
  have rf4 := KR4.out.fr 4 (by simp)
  have hl4 := KR4.out.lt
  go_wp2
  have HGF := (grown_other (grown_other (grown_other (grown_other (grown_other HG4.out (Nat.le_refl _) 0 (.int .i64 x.a)) (Nat.le_refl _) 1 (.int .i64 x.b)) (Nat.le_refl _) 2 (.int .i64 x.c)) (Nat.le_refl _) 3 (.int .i64 x.d)) (Nat.le_refl _) 4 (.int .i64 x.e))
  exact bodyPost_ret (v := .agg #[.int .i64 x.a, .int .i64 x.b, .int .i64 x.c, .int .i64 x.d, .int .i64 x.e]) (by simp [results, Tryd.results24, go_sem, rr0, rr1, rr2, rr3, rr4]) rfl ⟨x, rfl, (Below.refl _ _).grown HGF (Nat.le_refl _) (fun k hk => by injection hk with hk; have := HP.out; omega)⟩

set_option maxRecDepth 20000 in
set_option maxHeartbeats 4000000 in
theorem drawSignTreaty_any (B : Option Addr) (n c : Nat) (zs : List Int) (w : World) (hn : zs.length = n) (hB : Bytes w B zs) :
    Calls Tryd.prog 19 #[.slice B n c] w (RetDX w) := by
  subst hn
  have hB := hB.below ((Below.refl _ _).alloc (Nat.le_refl _) (.cells #[.int .i64 0, .int .i64 0, .int .i64 0, .int .i64 0, .int .i64 0] 44))
  have HC0 := Lib.hid (CurB.new hB c 56)
  obtain ⟨u, hu⟩ : ∃ u : Cu, u = ⟨B, c, zs⟩ := ⟨_, rfl⟩
  rw [← hu] at HC0
  clear hu hB
  obtain ⟨p, hp⟩ : ∃ p, p = w.heap.size + 1 := ⟨_, rfl⟩
  have HP := Lib.hid hp
  have TR := Lib.hid (fun k w h hk => treaties_any p k u w h hk)
  have TY := Lib.hid (fun k w h hk => treaty_any p k u w h hk)
  have HC1 : Hid (CurB ((w.alloc (.cells #[.int .i64 0, .int .i64 0, .int .i64 0, .int .i64 0, .int .i64 0] 44)).alloc (.cells #[.slice B zs.length c, .int .i64 0, .int .u64 0] 56)) p u 0) := Lib.hid (by have h := HC0.out; rw [hp]; simpa using h)
  have KR : Hid (Blk ((w.alloc (.cells #[.int .i64 0, .int .i64 0, .int .i64 0, .int .i64 0, .int .i64 0] 44)).alloc (.cells #[.slice B zs.length c, .int .i64 0, .int .u64 0] 56)) w.heap.size [.int .i64 0, .int .i64 0, .int .i64 0, .int .i64 0, .int .i64 0]) := Lib.hid ((Blk.new w _ _).alloc _)
  have HBW : Hid (w.grownBy ((w.alloc (.cells #[.int .i64 0, .int .i64 0, .int .i64 0, .int .i64 0, .int .i64 0] 44)).alloc (.cells #[.slice B zs.length c, .int .i64 0, .int .u64 0] 56)) (some p)) := Lib.hid (grown_alloc (World.grownBy_alloc w _ _) _)
  clear HC0 hp
  go_enter Tryd.func19, Tryd.ntmps19
  go_wp2_with fail
  rw [← HP.out]
  refine (TR.out 0 _ HC1.out (by omega)).mono ?_
  rintro e w1 ⟨v1, xs, k1, rfl, o1, hx, hk1, hc, hg⟩
  have hp1 : p < ((w.alloc (.cells #[.int .i64 0, .int .i64 0, .int .i64 0, .int .i64 0, .int .i64 0] 44)).alloc (.cells #[.slice B zs.length c, .int .i64 0, .int .u64 0] 56)).heap.size := by rw [HP.out]; simp
  obtain ⟨A, ca, rfl⟩ := own_form o1
  have HO1 := Lib.hid o1
  have HG1 := Lib.hid (grown_trans HBW.out hg)
  have HC := Lib.hid hc
  have KR1 := Lib.hid (KR.out.grown hg (by rw [HP.out]; simp))
  clear o1 hc hg HC1 HBW KR
  go_wp2_with fail
  refine (TY.out k1 _ HC.out (by omega)).mono ?_
  rintro e w4 ⟨v4, k4, rfl, ⟨x, rfl⟩, hk4, hc, hg⟩
  have HO4 := Lib.hid (own_grown HO1.out hg hp1)
  have HG4 := Lib.hid (grown_trans HG1.out hg)
  have KR4 := Lib.hid (KR1.out.grown hg (by rw [HP.out]; simp))
  clear hc hg HO1 HG1 KR1 HC
  have rr0 := KR4.out.cell 0 _ rfl
  have rf0 := KR4.out.fr 0 (by simp)
  have rr1 := KR4.out.cell 1 _ rfl
  have rf1 := KR4.out.fr 1 (by simp)
  have rr2 := KR4.out.cell 2 _ rfl
  have rf2 := KR4.out.fr 2 (by simp)
  have rr3 := KR4.out.cell 3 _ rfl
  have rf3 := KR4.out.fr 3 (by simp)
  have rr4 := KR4.out.cell 4 _ rfl
  have rf4 := KR4.out.fr 4 (by simp)
  have hl4 := KR4.out.lt
  have hs1 : w.heap.size ≤ w4.heap.size := HG4.out.size
  go_wp2
  have hA : ∀ b, (Value.slice A xs.length ca).ownBlock = some b → w.heap.size < b := fun b hb => by have := (HO4.out.lt b hb).1; have h2 := HP.out; omega
  have key : ∀ (W : World) (q : Nat) (v : Value), W.ownsRow w.heap.size 44 5 (.slice A xs.length ca) xs.length (cells5 xs) → (W.setCell ⟨w.heap.size, q, none⟩ v).ownsRow w.heap.size 44 5 (.slice A xs.length ca) xs.length (cells5 xs) := fun W q v h => own_beside h (grown_cell W w.heap.size q v) hA
  have HOF := key _ 4 (.int .i64 x.e) (key _ 3 (.int .i64 x.d) (key _ 2 (.int .i64 x.c) (key _ 1 (.int .i64 x.b) (key _ 0 (.int .i64 x.a) (own_mono HO4.out (by have := HP.out; omega))))))
  have HGF := (grown_other (grown_other (grown_other (grown_other (grown_other HG4.out (Nat.le_refl _) 0 (.int .i64 x.a)) (Nat.le_refl _) 1 (.int .i64 x.b)) (Nat.le_refl _) 2 (.int .i64 x.c)) (Nat.le_refl _) 3 (.int .i64 x.d)) (Nat.le_refl _) 4 (.int .i64 x.e))
  refine bodyPost_ret (v := .tuple #[.slice A xs.length ca, .agg #[.int .i64 x.a, .int .i64 x.b, .int .i64 x.c, .int .i64 x.d, .int .i64 x.e]]) (by simp [results, Tryd.results19, go_sem, rr0, rr1, rr2, rr3, rr4]) rfl ?_
  exact ⟨_, xs, x, rfl, Lst.of HOF hx, (Below.refl _ _).grown HGF (Nat.le_refl _) (fun k hk => by injection hk with hk; have := HP.out; omega)⟩
end Go.Proofs.YtnaehlglpaadhaaDoor
