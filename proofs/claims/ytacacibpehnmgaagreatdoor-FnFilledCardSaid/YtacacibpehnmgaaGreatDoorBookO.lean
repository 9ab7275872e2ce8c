/- The stock book: an argument opened: it reads as a list of rows. -/
import Derived.Test.YtacacibpehnmgaaGreatDoorBookS
import Derived.Test.YtacacibpehnmgaaGreatDoorOpen
namespace Go.Proofs.YtacacibpehnmgaaGreatDoor
set_option linter.unusedVariables false
set_option linter.unusedSimpArgs false
open Go.RowKit Go.ChangeShapes Go.WideShapes Go.ChangeAt Go.Deep

section
variable {H : Type} {enc : TypeId × Value → H} {P : Program} {w : World} {base : Nat} {spare : Nat → Bool} {held : Bool}
theorem openI {t e : TypeId} {v : Value} {fuel : Nat} {y : DataW H × List MemPlace} (ht : P.underlying t = some (.slice e)) (he : P.underlying e = some (.int .i64)) (hC : P.cellsOf e = 1)
    (hf : DataW.trod enc P w base spare held fuel t [v] = some y) : ∃ zs : List Int, RdI w v zs := by
  rcases open_ints ht he hC hf with ⟨hcs, _⟩ | ⟨a, l, c, zs, hcs, _, hl, hm, hlen, _, hcell, _⟩
  · simp only [List.cons.injEq, and_true] at hcs
    subst hcs
    exact ⟨[], none, 0, rfl, Nat.le_refl _, Nat.zero_le _, .inl rfl⟩
  · simp only [List.cons.injEq, and_true] at hcs
    subst hcs
    have hlz : l ≤ zs.length := by rw [hlen]; split <;> omega
    have hl1 : (zs.take l).length = l := by rw [List.length_take]; omega
    refine ⟨zs.take l, some a, c, by rw [hl1], by omega, by omega, ?_⟩
    rcases Nat.eq_zero_or_pos l with h0 | hpos
    · left; subst h0; rfl
    · right
      obtain ⟨g, o, sp⟩ := a
      have hc0 := hcell 0 (by omega)
      have hsp : sp = none := by
        have := World.cell?_spot hc0
        simpa [Addr.add] using this
      subst hsp
      refine ⟨g, o, rfl, ?_, fun q v hq => ?_⟩
      · have := World.block_lt_of_cell? w _ hc0
        rw [Addr.add_mid] at this; exact this
      · have hql : q < l := by have := (List.getElem?_eq_some_iff.1 hq).1; rw [length_cells1, List.length_take] at this; omega
        have h1 := hcell q (by omega)
        rw [Addr.add_mid] at h1
        rw [h1, ← hq]
        simp [cells1, List.getElem?_take, hql, show q < zs.length by omega]

theorem openB {t e ti ts : TypeId} {f0 f1 : Field} {A : Option Addr} {len cap : Nat} {d : DataW H} {p : List MemPlace} (ht : P.underlying t = some (.slice e)) (he : P.underlying e = some (.struct #[f0, f1]))
    (hone : oneCellFields P #[f0, f1] = true) (hC : P.cellsOf e = 2) (hti : P.underlying ti = some (.int .i64)) (hts : P.underlying ts = some (.slice ti)) (hCi : P.cellsOf ti = 1) (h0 : f0.type = ti) (h1 : f1.type = ts)
    (h : DataW.Trod enc P w base spare held t (.slice A len cap) d p) : ∃ xs : List BR, xs.length = len ∧ RdB w A xs ∧ len ≤ maxLen := by
  obtain ⟨fuel, hf⟩ := h
  rcases open_slice_fields ht he hone hC hf with ⟨hcs, _⟩ | ⟨a, l, c, m, D, Pl, hcs, _, hl, hcm, hm, _, hi⟩
  · simp [Value.cells] at hcs
    obtain ⟨rfl, rfl, rfl⟩ := hcs
    exact ⟨[], rfl, .inl rfl, Nat.zero_le _⟩
  · simp [Value.cells] at hcs
    obtain ⟨rfl, rfl, rfl⟩ := hcs
    have hlm : len ≤ m := by rw [hm]; split <;> omega
    have key : ∀ i, i < len → ∃ x : BR, w.cell? (a.add (i * 2)) = some (.int .i64 x.id) ∧ ∃ v, w.cell? (a.add (i * 2 + 1)) = some v ∧ RdI w v x.ws := by
      intro i hil
      obtain ⟨ys, n, _, _, _, hj⟩ := hi i (by omega)
      obtain ⟨v0, y0, c0, _, t0⟩ := hj 0 f0 rfl
      obtain ⟨v1, y1, c1, _, t1⟩ := hj 1 f1 rfl
      rw [h0] at t0; rw [h1] at t1
      obtain ⟨z0, e0, _, _⟩ := DataW.trod_int hti t0
      simp at e0
      subst e0
      obtain ⟨zs, hz⟩ := openI hts hti hCi t1
      exact ⟨⟨z0, zs⟩, c0, v1, c1, hz⟩
    let X : Nat → BR := fun i => if h : i < len then (key i h).choose else ⟨0, []⟩
    have hX : ∀ i (h : i < len), X i = (key i h).choose := fun i h => by simp [X, h]
    obtain ⟨xs, hxl, hxs⟩ : ∃ xs : List BR, xs.length = len ∧ ∀ i, i < len → xs[i]? = some (X i) := ⟨(List.range len).map X, by simp, fun i hi => by simp [hi]⟩
    refine ⟨xs, hxl, ?_, by omega⟩
    rcases Nat.eq_zero_or_pos len with h0 | hpos
    · left; exact List.eq_nil_of_length_eq_zero (by omega)
    · right
      obtain ⟨g, o, sp⟩ := a
      have hc0 := (key 0 hpos).choose_spec.1
      have hsp : sp = none := by
        have := World.cell?_spot hc0
        simpa [Addr.add] using this
      subst hsp
      refine ⟨g, o, rfl, ?_, fun i x hx => ?_⟩
      · have := World.block_lt_of_cell? w _ hc0
        rw [Addr.add_mid] at this; exact this
      · have hil : i < len := by have := (List.getElem?_eq_some_iff.1 hx).1; omega
        rw [hxs i hil] at hx
        injection hx with hx
        subst hx
        rw [hX i hil]
        obtain ⟨k1, v, k2, k3⟩ := (key i hil).choose_spec
        exact ⟨(by rw [← Addr.add_mid]; exact k1), v, (by rw [Nat.add_assoc, ← Addr.add_mid]; exact k2), k3⟩
end
end Go.Proofs.YtacacibpehnmgaaGreatDoor
