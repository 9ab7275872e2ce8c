/- The cursor that draws: a pointer to three cells, which reads bytes. -/
import Derived.Test.YtobloedpmjkgpaaIn
import Derived.Test.YtobloedpmjkgpaaExt
import Derived.Deep.RegionHeld3
import Derived.Laws.Bits64b
import Derived.Lib.BufferWrite
namespace Go.Proofs.Ytobloedpmjkgpaa
set_option linter.unusedVariables false
set_option linter.unusedSimpArgs false
open Go.RowKit

/-- A block and its cells. -/
structure Blk (w : World) (q : Nat) (cs : List Value) : Prop where
  cell : ∀ (i : Nat) (v : Value), cs[i]? = some v → w.cell? ⟨q, i, none⟩ = some v
  fr : ∀ i : Nat, i < cs.length → w.frozen? ⟨q, i, none⟩ = false
  lt : q < w.heap.size
theorem Blk.below {w w' : World} {q B : Nat} {cs : List Value} (h : Blk w q cs) (hb : Below B w w') (hq : q < B) : Blk w' q cs :=
  ⟨fun i v hi => (hb.cell (p := ⟨q, i, none⟩) hq).trans (h.cell i v hi), fun i hi => (hb.frozen (p := ⟨q, i, none⟩) hq).trans (h.fr i hi), Nat.lt_of_lt_of_le h.lt hb.size⟩
theorem Blk.new (w : World) (cs : List Value) (t : TypeId) : Blk (w.alloc (.cells cs.toArray t)) w.heap.size cs :=
  ⟨fun i v hi => (World.cell?_alloc_at _ _ _ _ rfl).trans (by simpa using hi), fun i hi => World.frozen?_alloc_at _ _ _ _ rfl, by simp⟩
theorem Blk.alloc {w : World} {q : Nat} {cs : List Value} (h : Blk w q cs) (o : Obj) : Blk (w.alloc o) q cs := h.below ((Below.refl w.heap.size w).alloc (Nat.le_refl _) o) h.lt
theorem Blk.set {w : World} {q i : Nat} {cs : List Value} (h : Blk w q cs) (hi : i < cs.length) (v : Value) : Blk (w.setCell ⟨q, i, none⟩ v) q (cs.set i v) := by
  refine ⟨fun j u hj => ?_, fun j hj => by simp only [World.frozen?_setCell]; exact h.fr j (by simpa using hj), by simpa using h.lt⟩
  by_cases e : i = j
  · subst e
    rw [List.getElem?_set_self hi] at hj; injection hj with hj; subst hj
    exact World.cell?_setCell_same' _ _ _ (by rw [h.cell i _ (List.getElem?_eq_getElem hi)]; rfl)
  · rw [List.getElem?_set_ne e] at hj
    rw [World.cell?_setCell_other _ _ _ _ (by simp <;> omega)]
    exact h.cell j u hj
theorem Blk.other {w : World} {q g i : Nat} {cs : List Value} (h : Blk w q cs) (hq : q ≠ g) (v : Value) : Blk (w.setCell ⟨g, i, none⟩ v) q cs :=
  ⟨fun j u hj => (World.cell?_setCell_other _ _ _ _ (by simp <;> omega)).trans (h.cell j u hj), fun j hj => by simp only [World.frozen?_setCell]; exact h.fr j hj, by simpa using h.lt⟩

theorem Blk.grown {w w' : World} {q : Nat} {row : Option Nat} {cs : List Value} (h : Blk w q cs) (hg : w.grownBy w' row) (hq : some q ≠ row) : Blk w' q cs :=
  ⟨fun i v hi => (hg.cell_far ⟨q, i, none⟩ h.lt hq).trans (h.cell i v hi), fun i hi => (hg.frozen_far ⟨q, i, none⟩ h.lt hq).trans (h.fr i hi), Nat.lt_of_lt_of_le h.lt hg.size⟩
theorem grown_refl (w : World) (row : Option Nat) : w.grownBy w row := ⟨rfl, rfl, rfl, Nat.le_refl _, fun _ _ _ => rfl⟩
theorem grown_trans {a w w' : World} {row : Option Nat} (h : a.grownBy w row) (k : w.grownBy w' row) : a.grownBy w' row :=
  ⟨k.os.trans h.os, k.tape.trans h.tape, k.output.trans h.output, Nat.le_trans h.size k.size, fun b hb hne => (k.block b (Nat.lt_of_lt_of_le hb h.size) hne).trans (h.block b hb hne)⟩
theorem grown_below {w w' : World} {row : Option Nat} (hb : Below w.heap.size w w') : w.grownBy w' row := ⟨hb.os, hb.tape, hb.output, hb.size, fun j hj _ => hb.block j hj⟩
theorem Rd.grown {w w' : World} {row : Option Nat} {A : Option Addr} {cs : List Value} (hg : w.grownBy w' row) (h : Rd w A cs) (hne : ∀ g o q, A = some ⟨g, o, q⟩ → some g ≠ row) : Rd w' A cs := by
  rcases h with h | ⟨g, o, e, hlt, hc⟩
  · exact .inl h
  · exact .inr ⟨g, o, e, Nat.lt_of_lt_of_le hlt hg.size, fun j v hv => (hg.cell_far ⟨g, o + j, none⟩ hlt (hne _ _ _ e)).trans (hc j v hv)⟩

/-- The bytes. -/
def cellsU (zs : List Int) : List Value := zs.map (fun z => .int .u8 z)
theorem rdU {w w' : World} {row : Option Nat} {B : Option Addr} {zs : List Int} {p : Nat} (r : Rd w B (cellsU zs)) (f : zs ≠ [] → ∀ g o q, B = some ⟨g, o, q⟩ → g < p) (hg : w.grownBy w' row) (hrow : ∀ b, row = some b → p ≤ b) : Rd w' B (cellsU zs) := by
  by_cases h0 : zs = []
  · left; rw [h0]; rfl
  · exact r.grown hg (fun g o q e e2 => by have := f h0 g o q e; have := hrow g e2.symm; omega)
structure Cu where
  B : Option Addr
  c : Nat
  zs : List Int
structure CurB (w : World) (p : Nat) (u : Cu) (k : Nat) : Prop where
  blk : ∃ s : Int, Blk w p [.slice u.B u.zs.length u.c, .int .i64 k, .int .u64 s]
  rd : Rd w u.B (cellsU u.zs)
  far : u.zs ≠ [] → ∀ g o q, u.B = some ⟨g, o, q⟩ → g < p
  byte : ∀ z ∈ u.zs, 0 ≤ z ∧ z ≤ 255
  len : u.zs.length ≤ 65536
/-- The call returns a value as V says; the cursor is d bytes further at most; only its block is written. -/
def RetC (p : Nat) (u : Cu) (k d : Nat) (V : Value → Prop) (W : World) : Ending → World → Prop := fun e w' => ∃ v k', e = .returned v ∧ V v ∧ k' ≤ k + d ∧ CurB w' p u k' ∧ W.grownBy w' (some p)
def InI (a b : Int) (v : Value) : Prop := ∃ r : Int, v = .int .i64 r ∧ a ≤ r ∧ r ≤ b
theorem CurB.byteAt {w : World} {p : Nat} {u : Cu} {k : Nat} (h : CurB w p u k) {j : Nat} (hj : j < u.zs.length) : ∃ g o z, u.B = some ⟨g, o, none⟩ ∧ g < w.heap.size ∧ w.cell? ⟨g, o + j, none⟩ = some (.int .u8 z) ∧ (0 ≤ z ∧ z ≤ 255) ∧ g ≠ p := by
  rcases h.rd with hd | ⟨g, o, e, hlt, hc⟩
  · have := congrArg List.length hd; simp [cellsU] at this; rw [this] at hj; simp at hj
  · refine ⟨g, o, u.zs[j], e, hlt, hc j _ ?_, h.byte _ (List.getElem_mem hj), by have := h.far (by intro h0; rw [h0] at hj; simp at hj) _ _ _ e; omega⟩
    simp [cellsU, hj]

theorem Blk.drew {w : World} {q : Nat} {cs : List Value} (h : Blk w q cs) : Blk w.drew q cs := ⟨h.cell, h.fr, h.lt⟩
theorem CurB.drew {w : World} {p : Nat} {u : Cu} {k : Nat} (h : CurB w p u k) : CurB w.drew p u k := by
  obtain ⟨⟨s, K⟩, r, f, b, l⟩ := h
  exact ⟨⟨s, K.drew⟩, r.drew, f, b, l⟩
theorem grown_drew {w w' : World} {row : Option Nat} (h : w.grownBy w' row) : w.grownBy w'.drew row := ⟨h.os, h.tape, h.output, h.size, h.block⟩
theorem grown_cell (w : World) (p i : Nat) (v : Value) : w.grownBy (w.setCell ⟨p, i, none⟩ v) (some p) :=
  ⟨rfl, rfl, rfl, by simp [World.setCell], fun k _ hk => Below.heap_setCell _ _ _ _ (fun e => hk (by simp [e]))⟩
theorem low8 (x : Int) : ∃ r : Int, wrap64 (bits BinOp.and IntKind.u64 (IntKind.u64.wrap x / 1099511627776) 255) = r ∧ 0 ≤ r ∧ r ≤ 255 := by
  have h0 := IntKind.wrap_u64 x
  have h := bits_and_u64_nat (IntKind.u64.wrap x / 1099511627776).toNat 255 (by omega) (by omega)
  rw [Int.toNat_of_nonneg (by omega)] at h
  have h2 : (IntKind.u64.wrap x / 1099511627776).toNat &&& 255 ≤ 255 := Nat.and_le_right
  obtain ⟨N, hN⟩ : ∃ N, N = (IntKind.u64.wrap x / 1099511627776).toNat &&& 255 := ⟨_, rfl⟩
  rw [← hN] at h2
  have e : bits BinOp.and IntKind.u64 (IntKind.u64.wrap x / 1099511627776) 255 = (N : Int) := by rw [hN]; exact h
  exact ⟨N, by rw [e]; exact IntWalk.wrap64_in (N : Int) (by omega), by omega, by omega⟩
theorem CurB.step {w : World} {p : Nat} {u : Cu} {k : Nat} (h : CurB w p u k) (s' : Int) : CurB ((w.setCell ⟨p, 1, none⟩ (.int .i64 ((k : Int) + 1))).setCell ⟨p, 2, none⟩ (.int .u64 s')) p u (k + 1) ∧ w.grownBy ((w.setCell ⟨p, 1, none⟩ (.int .i64 ((k : Int) + 1))).setCell ⟨p, 2, none⟩ (.int .u64 s')) (some p) := by
  have hg := grown_trans (grown_cell w p 1 (.int .i64 ((k : Int) + 1))) (grown_cell (w.setCell ⟨p, 1, none⟩ (.int .i64 ((k : Int) + 1))) p 2 (.int .u64 s'))
  obtain ⟨⟨s, K⟩, r, f, b, l⟩ := h
  exact ⟨⟨⟨s', (K.set (i := 1) (by simp) _).set (i := 2) (by simp) _⟩, rdU r f hg (fun b hb => by injection hb with hb; omega), f, b, l⟩, hg⟩

set_option maxRecDepth 20000 in
set_option maxHeartbeats 2000000 in
theorem next_any (p k : Nat) (u : Cu) (w : World) (h : CurB w p u k) (hk : k ≤ 1000000) :
    Calls Try.prog 66 #[.pointer (some ⟨p, 0, none⟩)] w (RetC p u k 1 (InI 0 255) w) := by
  obtain ⟨s, K⟩ := h.blk
  obtain ⟨n, hn⟩ : ∃ n, n = u.zs.length := ⟨_, rfl⟩
  have y0 := K.cell 0 _ rfl
  have y1 := K.cell 1 _ rfl
  have y2 := K.cell 2 _ rfl
  have f1 := K.fr 1 (by simp)
  have f2 := K.fr 2 (by simp)
  have hp := K.lt
  have HC := Lib.hid h
  have HK := Lib.hid K
  have hl := h.len
  rw [← hn] at y0 hl
  have hw1 : IntKind.i64.wrap ((k : Int) + 1) = (k : Int) + 1 := IntWalk.i64_in _ (by omega)
  by_cases hlt : k < n
  · obtain ⟨g, o, z, hB, hg, hz, hzb, hgp⟩ := h.byteAt (j := k) (by omega)
    rw [hB] at y0
    have hlt' : (k : Int) < (n : Int) := by omega
    have hle' : (k : Int) + 1 ≤ (n : Int) := by omega
    have hk0 : (0 : Int) ≤ (k : Int) := by omega
    have hwz : IntKind.i64.wrap z = z := IntWalk.i64_in _ (by omega)
    have hgp2 : ¬ p = g := fun e => hgp e.symm
    clear h K
    go_enter Try.func66, Try.ntmps66
    go_wp2_with fail
    go_region
    all_goals go_goals
    go_wp2_with fail
    go_region
    all_goals go_goals
    go_wp2_with fail
    go_region
    all_goals go_goals
    go_wp2
    go_ret
    exact ⟨_, k + 1, rfl, ⟨z, rfl, by omega, by omega⟩, by omega, (HC.out.step _).1.drew.drew.drew, grown_drew (grown_drew (grown_drew (HC.out.step _).2))⟩
  · have hlt' : (n : Int) ≤ (k : Int) := by omega
    have hle' : (n : Int) < (k : Int) + 1 := by omega
    have hk0 : (0 : Int) ≤ (k : Int) := by omega
    have hlt2 : n ≤ k := by omega
    clear h K
    go_enter Try.func66, Try.ntmps66
    go_wp2_with fail
    go_region
    all_goals go_goals
    go_wp2_with fail
    go_region
    all_goals go_goals
    go_wp2
    go_ret
    obtain ⟨r, hr, hr0, hr1⟩ := low8 (IntKind.u64.wrap (IntKind.u64.wrap (s * 6364136223846793005)) + 381907)
    exact ⟨_, k + 1, rfl, ⟨r, congrArg (Value.int IntKind.i64) hr, hr0, hr1⟩, by omega, (HC.out.step _).1.drew.drew, grown_drew (grown_drew (HC.out.step _).2)⟩

set_option maxRecDepth 20000 in
set_option maxHeartbeats 2000000 in
theorem pick_any (p k m : Nat) (u : Cu) (w : World) (h : CurB w p u k) (hk : k ≤ 900000) (hm : 1 ≤ m) (hm2 : m ≤ 1000000) :
    Calls Try.prog 39 #[.pointer (some ⟨p, 0, none⟩), .int .i64 m] w (RetC p u k 2 (InI 0 ((m : Int) - 1)) w) := by
  have C := Lib.hid (fun k w h hk => next_any p k u w h hk)
  have HC := Lib.hid h
  clear h
  by_cases h1 : m ≤ 1
  · have h1' : (m : Int) ≤ 1 := by omega
    go_enter Try.func39, Try.ntmps39
    go_wp2
    go_ret
    exact ⟨_, k, rfl, ⟨0, rfl, by omega, by omega⟩, by omega, HC.out, grown_refl _ _⟩
  · have h1' : ¬ (m : Int) ≤ 1 := by omega
    have h2' : (1 : Int) < (m : Int) := by omega
    have hm0 : ¬ (m : Int) = 0 := by omega
    go_enter Try.func39, Try.ntmps39
    go_wp2_with fail
    refine (C.out k _ HC.out (by omega)).mono ?_
    rintro e w1 ⟨v1, k1, rfl, ⟨r, rfl, hr0, hr1⟩, hk1, hc1, hg1⟩
    have HC1 := Lib.hid hc1
    have HG1 := Lib.hid hg1
    clear hc1 hg1
    have hmr : ∀ x : Int, 0 ≤ x → 0 ≤ x % (m : Int) ∧ x % (m : Int) ≤ (m : Int) - 1 := fun x hx => by
      have h3 := Int.emod_nonneg x hm0
      have h4 := Int.emod_lt_of_pos x (show (0 : Int) < (m : Int) by omega)
      omega
    have HM := Lib.hid hmr
    clear hmr
    by_cases h3 : 200 < m
    · have h3' : (200 : Int) < (m : Int) := by omega
      have hw1 : IntKind.i64.wrap (r * 256) = r * 256 := IntWalk.i64_in _ (by omega)
      go_wp2_with fail
      refine (C.out k1 _ HC1.out (by omega)).mono ?_
      rintro e w2 ⟨v2, k2, rfl, ⟨q, rfl, hq0, hq1⟩, hk2, hc2, hg2⟩
      have HC2 := Lib.hid hc2
      have HG2 := Lib.hid hg2
      clear hc2 hg2
      have hw2 : IntKind.i64.wrap (r * 256 + q) = r * 256 + q := IntWalk.i64_in _ (by omega)
      have hx0 : 0 ≤ r * 256 + q := by omega
      go_wp2
      go_ret
      exact ⟨_, k2, rfl, ⟨_, rfl, (HM.out _ hx0).1, (HM.out _ hx0).2⟩, by omega, HC2.out, grown_trans HG1.out HG2.out⟩
    · have h3' : ¬ (200 : Int) < (m : Int) := by omega
      have h3'' : (m : Int) ≤ 200 := by omega
      go_wp2
      go_ret
      exact ⟨_, k1, rfl, ⟨_, rfl, (HM.out _ hr0).1, (HM.out _ hr0).2⟩, by omega, HC1.out, HG1.out⟩

theorem CurB.grown {w w' : World} {p : Nat} {u : Cu} {k : Nat} (h : CurB w p u k) (hb : Below w.heap.size w w') : CurB w' p u k := by
  obtain ⟨⟨s, K⟩, r, f, b, l⟩ := h
  exact ⟨⟨s, K.below hb K.lt⟩, r.below hb, f, b, l⟩
theorem CurB.alloc {w : World} {p : Nat} {u : Cu} {k : Nat} (h : CurB w p u k) (o : Obj) : CurB (w.alloc o) p u k := h.grown ((Below.refl _ _).alloc (Nat.le_refl _) o)
theorem CurB.lt {w : World} {p : Nat} {u : Cu} {k : Nat} (h : CurB w p u k) : p < w.heap.size := by obtain ⟨s, K⟩ := h.blk; exact K.lt
theorem CurB.other {w : World} {p q i : Nat} {u : Cu} {k : Nat} (h : CurB w p u k) (hq : p < q) (v : Value) : CurB (w.setCell ⟨q, i, none⟩ v) p u k := by
  obtain ⟨⟨s, K⟩, r, f, b, l⟩ := h
  exact ⟨⟨s, K.other (by omega) v⟩, rdU r f (grown_cell w q i v) (fun b hb => by injection hb with hb; omega), f, b, l⟩
/-- Writes into a block that is newer than w leave w's blocks but p as they were. -/
theorem grown_other {w w' : World} {p q : Nat} (h : w.grownBy w' (some p)) (hq : w.heap.size ≤ q) (i : Nat) (v : Value) : w.grownBy (w'.setCell ⟨q, i, none⟩ v) (some p) := by
  have g := grown_cell w' q i v
  exact ⟨g.os.trans h.os, g.tape.trans h.tape, g.output.trans h.output, Nat.le_trans h.size g.size, fun b hb hne => (g.block b (Nat.lt_of_lt_of_le hb h.size) (by simp; omega)).trans (h.block b hb hne)⟩
theorem grown_alloc {w w' : World} {row : Option Nat} (h : w.grownBy w' row) (o : Obj) : w.grownBy (w'.alloc o) row := grown_trans h (World.grownBy_alloc w' o row)
/-- A list of constants in a new block. -/
theorem rd_ints {w : World} (zs : List Int) (t : TypeId) : Rd (w.alloc (.cells (cells1 zs).toArray t)) (some ⟨w.heap.size, 0, none⟩) (cells1 zs) := by
  have := rd_new (w := w) (cells1 zs).toArray t rfl
  simpa using this
def BoolV (v : Value) : Prop := ∃ b : Bool, v = .bool b
set_option maxHeartbeats 2000000 in
theorem one_any (p k m : Nat) (u : Cu) (w : World) (h : CurB w p u k) (hk : k ≤ 900000) (hm : 1 ≤ m) (hm2 : m ≤ 1000000) :
    Calls Try.prog 37 #[.pointer (some ⟨p, 0, none⟩), .int .i64 m] w (RetC p u k 2 BoolV w) := by
  have C := Lib.hid (pick_any p k m u w h hk hm hm2)
  clear h
  go_enter Try.func37, Try.ntmps37
  go_wp2_with fail
  refine C.out.mono ?_
  rintro e w1 ⟨v1, k1, rfl, ⟨r, rfl, -, -⟩, hk1, hc1, hg1⟩
  go_wp2
  go_ret
  exact ⟨_, k1, rfl, ⟨_, rfl⟩, hk1, hc1, hg1⟩

set_option maxHeartbeats 2000000 in
theorem among_any (p k n c : Nat) (u : Cu) (A : Option Addr) (zs : List Int) (w : World) (h : CurB w p u k) (hk : k ≤ 900000) (hz : zs.length = n) (hn : 1 ≤ n) (hn2 : n ≤ 1000) (hA : Rd w A (cells1 zs)) (hf : ∀ g o q, A = some ⟨g, o, q⟩ → g ≠ p) :
    Calls Try.prog 29 #[.pointer (some ⟨p, 0, none⟩), .slice A n c] w (RetC p u k 2 (fun v => ∃ z ∈ zs, v = .int .i64 z) w) := by
  have C := Lib.hid (pick_any p k n u w h hk hn (by omega))
  have HA := Lib.hid hA
  have HF := Lib.hid hf
  clear h hA hf
  go_enter Try.func29, Try.ntmps29
  go_wp2_with fail
  refine C.out.mono ?_
  rintro e w1 ⟨v1, k1, rfl, ⟨r, rfl, hr0, hr1⟩, hk1, hc1, hg1⟩
  obtain ⟨j, rfl⟩ : ∃ j : Nat, r = j := ⟨r.toNat, by omega⟩
  have hj : j < n := by omega
  have hjz : zs[j]? = some (zs[j]'(by omega)) := List.getElem?_eq_getElem _
  obtain ⟨z, hzz⟩ : ∃ z, zs[j]? = some z := ⟨_, hjz⟩
  have hmem : z ∈ zs := List.mem_of_getElem? hzz
  obtain ⟨g, o, hAe, hg, c0⟩ := (Rd.grown hg1 HA.out (fun g o q e => by have := HF.out g o q e; simpa using this)).at1 hzz
  subst hAe
  have hj0 : (0 : Int) ≤ (j : Int) := by omega
  have hjn : (j : Int) < (n : Int) := by omega
  have HM := Lib.hid hmem
  have HC1 := Lib.hid hc1
  have HG1 := Lib.hid hg1
  clear hjz hzz hmem hc1 hg1 hz
  go_wp2
  go_ret
  exact ⟨_, k1, rfl, ⟨z, HM.out, rfl⟩, hk1, HC1.out, HG1.out⟩
end Go.Proofs.Ytobloedpmjkgpaa
