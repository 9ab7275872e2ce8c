/- Approvals: an argument opened: it reads as a list of rows. -/
import Derived.Test.YtehohkdipfphmaaDoorAppS
import Derived.Test.YtehohkdipfphmaaDoorOpen
namespace Go.Proofs.YtehohkdipfphmaaDoor
set_option linter.unusedVariables false
set_option linter.unusedSimpArgs false
open Go.RowKit Go.ChangeShapes Go.WideShapes Go.ChangeAt Go.Deep

section
variable {H : Type} {enc : TypeId × Value → H} {P : Program} {w : World} {base : Nat} {spare : Nat → Bool} {held : Bool}
theorem openI {t e : TypeId} {v : Value} {fuel : Nat} {y : DataW H × List MemPlace} (ht : P.underlying t = some (.slice e)) (he : P.underlying e = some (.int .i64)) (hC : P.cellsOf e = 1)
    (hf : DataW.trod enc P w base spare held fuel t [v] = some y) : ∃ zs : List Int, RdI w v zs := by
  rcases open_ints ht he hC hf with ⟨hcs, _⟩ | ⟨a, l, c, zs, hcs, _, hl, hm, hlen, _, hcell, _⟩
  · simp only [List.cons.injEq, and_true] at hcs
    subst hcs
    exact ⟨[], none, 0, rfl, Nat.le_refl _, Nat.zero_le _, .inl rfl⟩
  · simp only [List.cons.injEq, and_true] at hcs
    subst hcs
    have hlz : l ≤ zs.length := by rw [hlen]; split <;> omega
    have hl1 : (zs.take l).length = l := by rw [List.length_take]; omega
    refine ⟨zs.take l, some a, c, by rw [hl1], by omega, by omega, ?_⟩
    rcases Nat.eq_zero_or_pos l with h0 | hpos
    · left; subst h0; rfl
    · right
      obtain ⟨g, o, sp⟩ := a
      have hc0 := hcell 0 (by omega)
      have hsp : sp = none := by
        have := World.cell?_spot hc0
        simpa [Addr.add] using this
      subst hsp
      refine ⟨g, o, rfl, ?_, fun q v hq => ?_⟩
      · have := World.block_lt_of_cell? w _ hc0
        rw [Addr.add_mid] at this; exact this
      · have hql : q < l := by have := (List.getElem?_eq_some_iff.1 hq).1; rw [length_cells1, List.length_take] at this; omega
        have h1 := hcell q (by omega)
        rw [Addr.add_mid] at h1
        rw [h1, ← hq]
        simp [cells1, List.getElem?_take, hql, show q < zs.length by omega]

theorem openA {t e ti ts tt : TypeId} {f0 f1 f2 f3 f4 f5 : Field} {A : Option Addr} {len cap : Nat} {d : DataW H} {p : List MemPlace} (ht : P.underlying t = some (.slice e)) (he : P.underlying e = some (.struct #[f0, f1, f2, f3, f4, f5]))
    (hone : oneCellFields P #[f0, f1, f2, f3, f4, f5] = true) (hC : P.cellsOf e = 6) (hti : P.underlying ti = some (.int .i64)) (hts : P.underlying ts = some (.slice ti)) (htt : P.underlying tt = some .string) (hCi : P.cellsOf ti = 1)
    (h0 : f0.type = ti) (h1 : f1.type = tt) (h2 : f2.type = ti) (h3 : f3.type = ts) (h4 : f4.type = ts) (h5 : f5.type = ti)
    (h : DataW.Trod enc P w base spare held t (.slice A len cap) d p) : ∃ xs : List AR, xs.length = len ∧ RdA w A xs ∧ len ≤ maxLen := by
  obtain ⟨fuel, hf⟩ := h
  rcases open_slice_fields ht he hone hC hf with ⟨hcs, _⟩ | ⟨a, l, c, m, D, Pl, hcs, _, hl, hcm, hm, _, hi⟩
  · simp [Value.cells] at hcs
    obtain ⟨rfl, rfl, rfl⟩ := hcs
    exact ⟨[], rfl, .inl rfl, Nat.zero_le _⟩
  · simp [Value.cells] at hcs
    obtain ⟨rfl, rfl, rfl⟩ := hcs
    have hlm : len ≤ m := by rw [hm]; split <;> omega
    have key : ∀ i, i < len → ∃ x : AR, x.client.size ≤ maxLen ∧ w.cell? (a.add (i * 6)) = some (.int .i64 x.id) ∧ w.cell? (a.add (i * 6 + 1)) = some (.string x.client) ∧ w.cell? (a.add (i * 6 + 2)) = some (.int .i64 x.sent) ∧
        (∃ v, w.cell? (a.add (i * 6 + 3)) = some v ∧ RdI w v x.items) ∧ (∃ v, w.cell? (a.add (i * 6 + 4)) = some v ∧ RdI w v x.kept) ∧ w.cell? (a.add (i * 6 + 5)) = some (.int .i64 x.back) := by
      intro i hil
      obtain ⟨ys, n, _, _, _, hj⟩ := hi i (by omega)
      obtain ⟨v0, y0, c0, _, t0⟩ := hj 0 f0 rfl
      obtain ⟨v1, y1, c1, _, t1⟩ := hj 1 f1 rfl
      obtain ⟨v2, y2, c2, _, t2⟩ := hj 2 f2 rfl
      obtain ⟨v3, y3, c3, _, t3⟩ := hj 3 f3 rfl
      obtain ⟨v4, y4, c4, _, t4⟩ := hj 4 f4 rfl
      obtain ⟨v5, y5, c5, _, t5⟩ := hj 5 f5 rfl
      rw [h0] at t0; rw [h1] at t1; rw [h2] at t2; rw [h3] at t3; rw [h4] at t4; rw [h5] at t5
      obtain ⟨z0, e0, _, _⟩ := DataW.trod_int hti t0
      obtain ⟨s1, e1, _, hs1⟩ := DataW.trod_string htt t1
      obtain ⟨z2, e2, _, _⟩ := DataW.trod_int hti t2
      obtain ⟨zs3, r3⟩ := openI hts hti hCi t3
      obtain ⟨zs4, r4⟩ := openI hts hti hCi t4
      obtain ⟨z5, e5, _, _⟩ := DataW.trod_int hti t5
      simp at e0 e1 e2 e5
      subst e0; subst e1; subst e2; subst e5
      exact ⟨⟨z0, s1, z2, zs3, zs4, z5⟩, hs1, c0, c1, c2, ⟨v3, c3, r3⟩, ⟨v4, c4, r4⟩, c5⟩
    let X : Nat → AR := fun i => if h : i < len then (key i h).choose else ⟨0, ⟨#[]⟩, 0, [], [], 0⟩
    have hX : ∀ i (h : i < len), X i = (key i h).choose := fun i h => by simp [X, h]
    obtain ⟨xs, hxl, hxs⟩ : ∃ xs : List AR, xs.length = len ∧ ∀ i, i < len → xs[i]? = some (X i) := ⟨(List.range len).map X, by simp, fun i hi => by simp [hi]⟩
    refine ⟨xs, hxl, ?_, by omega⟩
    rcases Nat.eq_zero_or_pos len with h0 | hpos
    · left; exact List.eq_nil_of_length_eq_zero (by omega)
    · right
      obtain ⟨g, o, sp⟩ := a
      have hc0 := (key 0 hpos).choose_spec.2.1
      have hsp : sp = none := by
        have := World.cell?_spot hc0
        simpa [Addr.add] using this
      subst hsp
      refine ⟨g, o, rfl, ?_, fun i x hx => ?_⟩
      · have := World.block_lt_of_cell? w _ hc0
        rw [Addr.add_mid] at this; exact this
      · have hil : i < len := by have := (List.getElem?_eq_some_iff.1 hx).1; omega
        rw [hxs i hil] at hx
        injection hx with hx
        subst hx
        rw [hX i hil]
        have hc := (key i hil).choose_spec
        obtain ⟨y, hy⟩ : ∃ y, y = (key i hil).choose := ⟨_, rfl⟩
        rw [← hy] at hc ⊢
        obtain ⟨k0, k1, k2, k3, ⟨u, k4, k4'⟩, ⟨v, k5, k5'⟩, k6⟩ := hc
        rw [Addr.add_mid] at k1 k2 k3 k4 k5 k6
        exact ⟨k0, k1, by rw [Nat.add_assoc]; exact k2, by rw [Nat.add_assoc]; exact k3, ⟨u, by rw [Nat.add_assoc]; exact k4, k4'⟩, ⟨v, by rw [Nat.add_assoc]; exact k5, k5'⟩, by rw [Nat.add_assoc]; exact k6⟩
end

/-- Every block of such a list lies from lo on, below the heap's end. -/
theorem OwnA.lt {w : World} {lo E EI : Nat} {v : Value} {xs : List AR} {vs : List Value} (h : OwnA w lo E EI v xs vs) : ∀ (j : Nat) (a : Value) (k : Nat), (v :: vs)[j]? = some a → a.ownBlock = some k → lo ≤ k ∧ k < w.heap.size := by
  intro j a k ha hk
  cases j with
  | zero => simp at ha; subst ha; exact h.2.1.lt k hk
  | succ j =>
    have ha' : vs[j]? = some a := by simpa using ha
    have hj : j < (innA xs).length := by have := (List.getElem?_eq_some_iff.1 ha').1; have := h.1; rw [innA_len]; omega
    exact (h.2.2.1 j (innA xs)[j] a (List.getElem?_eq_getElem hj) ha').lt k hk
/-- Memory is written, but not the list's blocks. -/
theorem OwnA.only {w w' : World} {S : Nat → Prop} {lo E EI : Nat} {v : Value} {xs : List AR} {vs : List Value} (h : OwnA w lo E EI v xs vs) (hw : Only S w w') (hd : ∀ (j : Nat) (a : Value) (k : Nat), (v :: vs)[j]? = some a → a.ownBlock = some k → S k → False) : OwnA w' lo E EI v xs vs :=
  ⟨h.1, own_only h.2.1 hw (fun k hk => hd 0 v k rfl hk), fun j x u hx hu => own_only (h.2.2.1 j x u hx hu) hw (fun k hk => hd (j + 1) u k (by simpa using hu) hk), h.2.2.2⟩
theorem OwnA.mono {w : World} {lo lo' E EI : Nat} {v : Value} {xs : List AR} {vs : List Value} (h : OwnA w lo E EI v xs vs) (hl : lo' ≤ lo) : OwnA w lo' E EI v xs vs :=
  ⟨h.1, own_mono h.2.1 hl, fun j x u hx hu => own_mono (h.2.2.1 j x u hx hu) hl, h.2.2.2⟩
end Go.Proofs.YtehohkdipfphmaaDoor
