/- Arguments opened: a slice of structs of ints reads as a list of ints' cells. -/
import Derived.Test.YtobloedpmjkgpaaBase
import Derived.ProofKit
import Derived.OpenShut
import Derived.ChangeOld
import Derived.Deep.Slices
import Derived.Deep.Fields
import Derived.ChangeSame
namespace Go.Proofs.Ytobloedpmjkgpaa
set_option linter.unusedVariables false
set_option linter.unusedSimpArgs false
open Go.ChangeShapes Go.WideShapes Go.ChangeAt Go.RowKit Go.Deep

section
variable {H : Type} {enc : TypeId × Value → H} {P : Program} {w : World} {base : Nat} {spare : Nat → Bool} {held : Bool}
theorem open_slice_fields {t e : TypeId} {fs : Array Field} {fuel : Nat} {cs : List Value} {x : DataW H × List MemPlace} (ht : P.underlying t = some (.slice e)) (he : P.underlying e = some (.struct fs))
    (hone : oneCellFields P fs = true) (hC : P.cellsOf e = fs.size) (h : DataW.trod enc P w base spare held fuel t cs = some x) :
    (cs = [.slice none 0 0] ∧ x = (.nil, [])) ∨
    ∃ (a : Addr) (len cap m : Nat) (D : Nat → DataW H) (Pl : Nat → List MemPlace), cs = [.slice (some a) len cap] ∧ base ≤ a.block ∧ len ≤ cap ∧ cap ≤ maxLen ∧ m = (if spare a.block then cap else len) ∧
      x = (.slice ((List.range len).map D) ((List.range (m - len)).map fun j => D (len + j)), MemPlace.row a (m * fs.size) ++ (List.range m).flatMap Pl) ∧
      ∀ i, i < m → ∃ (ys : List (DataW H × List MemPlace)) (n : Nat), D i = .agg (ys.map (·.1)) ∧ Pl i = ys.flatMap (·.2) ∧ ys.length = fs.size ∧
        ∀ (j : Nat) (f : Field), fs[j]? = some f → ∃ (v : Value) (y : DataW H × List MemPlace), w.cell? (a.add (i * fs.size + j)) = some v ∧ ys[j]? = some y ∧ DataW.trod enc P w base spare held n f.type [v] = some y := by
  rcases open_slice ht h with h0 | ⟨a, len, cap, m, n, D, Pl, hcs, hb, hl, hm, hmm, hx, hi⟩
  · exact .inl h0
  · refine .inr ⟨a, len, cap, m, D, Pl, hcs, hb, hl, hm, hmm, by rw [hC] at hx; exact hx, fun i him => ?_⟩
    obtain ⟨cs', hc, ht'⟩ := hi i him
    rw [hC] at hc
    obtain ⟨ys, n', hn', hy, hlen, hyl, hf⟩ := DataW.trod_struct he ht'
    obtain ⟨_, hcl, hat⟩ := World.cells?_some hc
    simp only [Prod.mk.injEq] at hy
    refine ⟨ys, n', hy.1, hy.2, hyl, fun j f hj => ?_⟩
    obtain ⟨ho, hk⟩ := hone_of hone j f hj
    have hjl : j < fs.size := (Array.getElem?_eq_some_iff.1 hj).1
    have hcell := hat j hjl
    have hv : cs'[j]? = some (cs'[j]'(by omega)) := List.getElem?_eq_getElem (by omega)
    have h1 := hf j f hj
    rw [ho, hk] at h1
    have hone' : (cs'.drop j).take 1 = [cs'[j]'(by omega)] := by
      rw [List.drop_eq_getElem_cons (by omega)]
      rfl
    rw [hone'] at h1
    have hys : ys[j]? = some (ys[j]'(by omega)) := List.getElem?_eq_getElem (by omega)
    refine ⟨_, _, ?_, hys, h1.trans hys⟩
    rw [← Go.Deep.add_add, hcell, hv]
end

/-- All numbers of a list of structs are int64s. -/
def wf5 (xs : List R5) : Prop := ∀ x ∈ xs, (Lit.int .i64 x.a).wf = true ∧ (Lit.int .i64 x.b).wf = true ∧ (Lit.int .i64 x.c).wf = true ∧ (Lit.int .i64 x.d).wf = true ∧ (Lit.int .i64 x.e).wf = true

theorem list_of_fn5 (n : Nat) (X : Nat → R5) : ∃ xs : List R5, xs.length = n ∧ ∀ i, i < n → xs[i]? = some (X i) := ⟨(List.range n).map X, by simp, fun i hi => by simp [hi]⟩

theorem rangeAt_cells5 {w : World} {g o n : Nat} {xs : List R5} (hn : xs.length = n) (h : ∀ i x, xs[i]? = some x → ∀ j v, x.cells[j]? = some v → w.cell? ⟨g, o + (i * 5 + j), none⟩ = some v) : w.rangeAt g o (cells5 xs) := fun q v hq => by
  have hl := (List.getElem?_eq_some_iff.1 hq).1
  rw [length_cells5] at hl
  have hi : q / 5 < xs.length := by omega
  obtain ⟨x, hx⟩ : ∃ x, xs[q / 5]? = some x := ⟨xs[q / 5], List.getElem?_eq_getElem hi⟩
  have e : q = q / 5 * 5 + q % 5 := by omega
  have h5 : q % 5 < 5 := Nat.mod_lt _ (by omega)
  have hc := cells5_get xs (q / 5) x hx (q % 5) h5
  rw [← e, hq] at hc
  have := h _ _ hx _ _ hc.symm
  rw [← e] at this
  exact this

section
variable {H : Type} {enc : TypeId × Value → H} {P : Program} {w : World} {base : Nat} {spare : Nat → Bool} {held : Bool}
theorem open5 {t e ti : TypeId} {f0 f1 f2 f3 f4 : Field} {A : Option Addr} {len cap : Nat} {d : DataW H} {p : List MemPlace} (ht : P.underlying t = some (.slice e)) (he : P.underlying e = some (.struct #[f0, f1, f2, f3, f4]))
    (hone : oneCellFields P #[f0, f1, f2, f3, f4] = true) (hC : P.cellsOf e = 5) (hti : P.underlying ti = some (.int .i64)) (h0 : f0.type = ti) (h1 : f1.type = ti) (h2 : f2.type = ti) (h3 : f3.type = ti) (h4 : f4.type = ti)
    (h : DataW.Trod enc P w base spare held t (.slice A len cap) d p) : ∃ xs : List R5, xs.length = len ∧ Rd w A (cells5 xs) ∧ len ≤ maxLen ∧ wf5 xs := by
  obtain ⟨fuel, hf⟩ := h
  rcases open_slice_fields ht he hone hC hf with ⟨hcs, _⟩ | ⟨a, l, c, m, D, Pl, hcs, _, hl, hcm, hm, _, hi⟩
  · simp [Value.cells] at hcs
    obtain ⟨rfl, rfl, rfl⟩ := hcs
    exact ⟨[], rfl, .inl rfl, Nat.zero_le _, fun x hx => by cases hx⟩
  · simp [Value.cells] at hcs
    obtain ⟨rfl, rfl, rfl⟩ := hcs
    have hlm : len ≤ m := by rw [hm]; split <;> omega
    have key : ∀ i, i < len → ∃ x : R5, (∀ j v, x.cells[j]? = some v → w.cell? (a.add (i * 5 + j)) = some v) ∧ ((Lit.int .i64 x.a).wf = true ∧ (Lit.int .i64 x.b).wf = true ∧ (Lit.int .i64 x.c).wf = true ∧ (Lit.int .i64 x.d).wf = true ∧ (Lit.int .i64 x.e).wf = true) := by
      intro i hil
      obtain ⟨ys, n, _, _, _, hj⟩ := hi i (by omega)
      obtain ⟨v0, y0, c0, _, t0⟩ := hj 0 f0 rfl
      obtain ⟨v1, y1, c1, _, t1⟩ := hj 1 f1 rfl
      obtain ⟨v2, y2, c2, _, t2⟩ := hj 2 f2 rfl
      obtain ⟨v3, y3, c3, _, t3⟩ := hj 3 f3 rfl
      obtain ⟨v4, y4, c4, _, t4⟩ := hj 4 f4 rfl
      rw [h0] at t0; rw [h1] at t1; rw [h2] at t2; rw [h3] at t3; rw [h4] at t4
      obtain ⟨z0, e0, _, w0⟩ := DataW.trod_int hti t0
      obtain ⟨z1, e1, _, w1⟩ := DataW.trod_int hti t1
      obtain ⟨z2, e2, _, w2⟩ := DataW.trod_int hti t2
      obtain ⟨z3, e3, _, w3⟩ := DataW.trod_int hti t3
      obtain ⟨z4, e4, _, w4⟩ := DataW.trod_int hti t4
      simp at e0 e1 e2 e3 e4
      subst e0; subst e1; subst e2; subst e3; subst e4
      refine ⟨⟨z0, z1, z2, z3, z4⟩, fun j v hv => ?_, w0, w1, w2, w3, w4⟩
      have hj5 : j < 5 := by have := (List.getElem?_eq_some_iff.1 hv).1; simpa [R5.cells] using this
      have : j = 0 ∨ j = 1 ∨ j = 2 ∨ j = 3 ∨ j = 4 := by omega
      rcases this with rfl | rfl | rfl | rfl | rfl <;> simp [R5.cells] at hv <;> subst hv <;> assumption
    let X : Nat → R5 := fun i => if h : i < len then (key i h).choose else ⟨0, 0, 0, 0, 0⟩
    have hX : ∀ i (h : i < len), X i = (key i h).choose := fun i h => by simp [X, h]
    obtain ⟨xs, hxl, hxs⟩ := list_of_fn5 len X
    have hwf : wf5 xs := by
      intro x hx
      obtain ⟨i, hi, rfl⟩ := List.getElem_of_mem hx
      have h1 := hxs i (by omega)
      rw [List.getElem?_eq_getElem hi] at h1
      injection h1 with h1
      rw [h1, hX i (by omega)]
      exact (key i (by omega)).choose_spec.2
    refine ⟨xs, hxl, ?_, by omega, hwf⟩
    rcases Nat.eq_zero_or_pos len with h0 | hpos
    · left; exact List.eq_nil_of_length_eq_zero (by rw [length_cells5]; omega)
    · right
      obtain ⟨g, o, sp⟩ := a
      have hc0 := (key 0 hpos).choose_spec.1 0 _ rfl
      have hsp : sp = none := by
        have := World.cell?_spot hc0
        simpa [Addr.add] using this
      subst hsp
      refine ⟨g, o, rfl, ?_, rangeAt_cells5 hxl fun i x hx j v hv => ?_⟩
      · have := World.block_lt_of_cell? w _ hc0
        rw [Addr.add_mid] at this; exact this
      · have hil : i < len := by have := (List.getElem?_eq_some_iff.1 hx).1; omega
        rw [hxs i hil] at hx
        injection hx with hx
        subst hx
        rw [hX i hil] at hv
        have := (key i hil).choose_spec.1 j v hv
        rwa [Addr.add_mid] at this
end
end Go.Proofs.Ytobloedpmjkgpaa
