/- Lists of ints as arguments: their copies, their opening, and the two tests of ascending order. -/
import Derived.Test.YtobloedpmjkgpaaIn
import Derived.Test.YtobloedpmjkgpaaExt
import Derived.Test.YtobloedpmjkgpaaOpen
namespace Go.Proofs.Ytobloedpmjkgpaa
set_option linter.unusedVariables false
set_option linter.unusedSimpArgs false
open Go.RowKit Go.ChangeShapes Go.WideShapes Go.ChangeAt Go.Deep

section
variable {H : Type} {enc : TypeId × Value → H} {P : Program} {w : World} {base : Nat} {spare : Nat → Bool} {held : Bool}
theorem open1 {t e : TypeId} {A : Option Addr} {len cap : Nat} {d : DataW H} {p : List MemPlace} (ht : P.underlying t = some (.slice e)) (he : P.underlying e = some (.int .i64)) (hC : P.cellsOf e = 1)
    (h : DataW.Trod enc P w base spare held t (.slice A len cap) d p) : ∃ zs : List Int, zs.length = len ∧ Rd w A (cells1 zs) ∧ len ≤ maxLen ∧ True := by
  obtain ⟨fuel, hf⟩ := h
  rcases open_ints ht he hC hf with ⟨hcs, _⟩ | ⟨a, l, c, zs, hcs, _, hl, hm, hlen, _, hcell, _⟩
  · simp [Value.cells] at hcs
    obtain ⟨rfl, rfl, rfl⟩ := hcs
    exact ⟨[], rfl, .inl rfl, Nat.zero_le _, trivial⟩
  · simp [Value.cells] at hcs
    obtain ⟨rfl, rfl, rfl⟩ := hcs
    have hlz : len ≤ zs.length := by rw [hlen]; split <;> omega
    refine ⟨zs.take len, by rw [List.length_take]; omega, ?_, by omega, trivial⟩
    rcases Nat.eq_zero_or_pos len with h0 | hpos
    · left; subst h0; rfl
    · right
      obtain ⟨g, o, sp⟩ := a
      have hc0 := hcell 0 (by omega)
      have hsp : sp = none := by
        have := World.cell?_spot hc0
        simpa [Addr.add] using this
      subst hsp
      refine ⟨g, o, rfl, ?_, fun q v hq => ?_⟩
      · have := World.block_lt_of_cell? w _ hc0
        rw [Addr.add_mid] at this; exact this
      · have hql : q < len := by have := (List.getElem?_eq_some_iff.1 hq).1; rw [length_cells1, List.length_take] at this; omega
        have h1 := hcell q (by omega)
        rw [Addr.add_mid] at h1
        rw [h1, ← hq]
        simp [cells1, List.getElem?_take, hql, show q < zs.length by omega]
end

/-! ### The copy -/
theorem infoInt : (Try.prog.info? 3).map (fun i => (i.zero, i.size, i.bytes)) = some (some (.int .i64 0), 1, 8) := by kernel_rfl
def ToRel1 (W : World) (E g n : Nat) (zs : List Int) (k : Nat) (wr : World) : Prop :=
  wr.ownsRow W.heap.size E 1 (.slice (some ⟨g, 0, none⟩) n n) n (cells1 (zs.take k ++ List.replicate (n - k) 0)) ∧ Below W.heap.size W wr
theorem ToRel1.zero {W : World} {E n : Nat} {zs : List Int} (hn : n ≤ 1048576) : ToRel1 W E W.heap.size n zs 0 (W.alloc (.cells (madeCells (Value.cells (.int .i64 0)) (n * 1)) E)) := by
  refine ⟨?_, (Below.refl _ _).alloc (Nat.le_refl _) _⟩
  have h := own_made W W.heap.size E 1 n (Value.cells (.int .i64 0)) (Nat.le_refl _) (by unfold maxLen; omega)
  have e : (madeCells (Value.cells (.int .i64 0)) (n * 1)).toList = cells1 (zs.take 0 ++ List.replicate (n - 0) 0) := by
    rw [show Value.cells (.int .i64 0) = #[.int .i64 0] from rfl, toList_madeCells_one]
    simp [cells1]
  rw [e] at h
  exact h
theorem ToRel1.set {W wr : World} {E g n : Nat} {zs : List Int} {k : Nat} {z : Int} (h : ToRel1 W E g n zs k wr) (hn : zs.length = n) (hz : zs[k]? = some z) (hg : W.heap.size ≤ g) : ToRel1 W E g n zs (k + 1) (wr.setCell ⟨g, k, none⟩ (.int .i64 z)) := by
  obtain ⟨ho, hB⟩ := h
  have hk : k < n := by have := (List.getElem?_eq_some_iff.1 hz).1; omega
  obtain ⟨h1, h2⟩ := ho.stored k (.int .i64 z)
  refine ⟨?_, hB.setCell hg _⟩
  have hl : (cells1 (zs.take k)).length = k := by rw [length_cells1, List.length_take]; omega
  rw [List.take_add_one, hz, show n - k = (n - (k + 1)) + 1 by omega] at *
  rw [List.replicate_succ, cells1_append, List.set_append_right _ _ (by omega), hl, Nat.sub_self] at h1
  rw [cells1_append, cells1_append, List.append_assoc]
  exact h1
theorem ToRel1.done {W wr : World} {E g n : Nat} {zs : List Int} {k : Nat} (h : ToRel1 W E g n zs k wr) (hn : zs.length = n) (hk : n ≤ k) : wr.ownsRow W.heap.size E 1 (.slice (some ⟨g, 0, none⟩) n n) n (cells1 zs) := by
  have := h.1
  rw [List.take_of_length_le (by omega), show n - k = 0 by omega] at this
  simpa using this


/-! ### Ascending lists -/
def ascP (zs : List Int) (k : Nat) : Prop := ∀ (j : Nat) (x y : Int), j + 1 < k → zs[j]? = some x → zs[j + 1]? = some y → x < y
noncomputable def ascB (zs : List Int) : Bool := open Classical in decide (ascP zs zs.length)
theorem ascP.step {zs : List Int} {k : Nat} {x y : Int} (h : ascP zs k) (h0 : 0 < k) (hx : zs[k - 1]? = some x) (hy : zs[k]? = some y) (hxy : x < y) : ascP zs (k + 1) := fun j a b hj ha hb => by
  rcases Nat.lt_or_ge (j + 1) k with h' | h'
  · exact h j a b h' ha hb
  · have e : k = j + 1 := by omega
    subst e
    rw [Nat.add_sub_cancel, ha] at hx; rw [hb] at hy
    injection hx with hx; injection hy with hy
    omega
theorem ascB_no {zs : List Int} {k : Nat} {x y : Int} (h0 : 0 < k) (hx : zs[k - 1]? = some x) (hy : zs[k]? = some y) (hxy : ¬ x < y) : ascB zs = false := by
  unfold ascB
  rw [decide_eq_false_iff_not]
  intro h
  refine hxy (h (k - 1) x y ?_ hx (by rw [show k - 1 + 1 = k by omega]; exact hy))
  have := (List.getElem?_eq_some_iff.1 hy).1
  omega
theorem ascB_yes {zs : List Int} {k : Nat} (h : ascP zs k) (hk : zs.length ≤ k) : ascB zs = true := by
  unfold ascB
  exact @decide_eq_true _ (Classical.propDecidable _) (fun j x y hj hx hy => h j x y (by omega) hx hy)


def inAll (zs : List Int) (lo hi : Int) : Bool := zs.all fun z => inR z lo hi
def inAllP (zs : List Int) (lo hi : Int) (k : Nat) : Prop := ∀ (j : Nat) (z : Int), j < k → zs[j]? = some z → inR z lo hi = true
theorem inAllP.step {zs : List Int} {lo hi : Int} {k : Nat} {x : Int} (h : inAllP zs lo hi k) (hx : zs[k]? = some x) (hv : inR x lo hi = true) : inAllP zs lo hi (k + 1) := fun j z hj hz => by
  rcases Nat.lt_or_ge j k with h' | h'
  · exact h j z h' hz
  · have : j = k := by omega
    subst this; rw [hx] at hz; injection hz with hz; subst hz; exact hv
theorem inAll_no {zs : List Int} {lo hi : Int} {k : Nat} {x : Int} (hx : zs[k]? = some x) (hv : inR x lo hi = false) : inAll zs lo hi = false := by
  unfold inAll; rw [List.all_eq_false]; exact ⟨x, List.mem_of_getElem? hx, by simp [hv]⟩
theorem inAll_yes {zs : List Int} {lo hi : Int} {k : Nat} (h : inAllP zs lo hi k) (hk : zs.length ≤ k) : inAll zs lo hi = true := by
  unfold inAll; rw [List.all_eq_true]
  intro z hz
  obtain ⟨j, hj, rfl⟩ := List.getElem_of_mem hz
  exact h j _ (by omega) (List.getElem?_eq_getElem hj)
theorem inAll_at {zs : List Int} {lo hi : Int} {k : Nat} {x : Int} (h : inAll zs lo hi = true) (hx : zs[k]? = some x) : inR x lo hi = true := by
  unfold inAll at h; rw [List.all_eq_true] at h; exact h x (List.mem_of_getElem? hx)

end Go.Proofs.Ytobloedpmjkgpaa
