/- EndTreaty: the program's function and the reference's return one list. -/
import Derived.Test.YtpmklcpplpnlhaaTreE
import Derived.Test.YtpmklcpplpnlhaaSlcTrea
namespace Go.Proofs.Ytpmklcpplpnlhaa
set_option linter.unusedVariables false
set_option linter.unusedSimpArgs false
open Go.RowKit

theorem cells5_split {xs : List R5} {k : Nat} {x : R5} (h : xs[k]? = some x) : cells5 xs = cells5 (xs.take k) ++ (x.cells ++ cells5 (xs.drop (k + 1))) ∧ (cells5 (xs.take k)).length = k * 5 := by
  have hk := (List.getElem?_eq_some_iff.1 h).1
  have hx : xs[k] = x := by rw [List.getElem?_eq_getElem hk] at h; injection h
  refine ⟨?_, by rw [length_cells5, List.length_take]; congr 1; omega⟩
  rw [← cells5_cons, ← hx, ← List.drop_eq_getElem_cons hk, ← cells5_append, List.take_append_drop]
theorem cells5_setIdx {xs : List R5} {k : Nat} {x y : R5} (h : xs[k]? = some x) : cells5 (xs.set k y) = cells5 (xs.take k) ++ (y.cells ++ cells5 (xs.drop (k + 1))) := by
  have hk := (List.getElem?_eq_some_iff.1 h).1
  rw [List.set_eq_take_append_cons_drop, if_pos hk, cells5_append, cells5_cons]
theorem setAll_cells5 {xs : List R5} {k : Nat} {x y : R5} (h : xs[k]? = some x) : setAll (cells5 xs) (k * 5) y.cells = cells5 (xs.set k y) := by
  obtain ⟨e, hl⟩ := cells5_split h
  rw [cells5_setIdx h, e]
  have := setAll_mid y.cells (cells5 (xs.take k)) x.cells (cells5 (xs.drop (k + 1))) rfl
  rwa [hl] at this
theorem set3_cells5 {xs : List R5} {k : Nat} {x : R5} (h : xs[k]? = some x) (z : Int) : (cells5 xs).set (k * 5 + 3) (.int .i64 z) = cells5 (xs.set k { x with d := z }) := by
  obtain ⟨e, hl⟩ := cells5_split h
  rw [cells5_setIdx h, e, List.set_append_right _ _ (by omega), hl, Nat.add_sub_cancel_left]
  rfl
theorem own_some {w : World} {base e size n : Nat} {v : Value} {cs : List Value} (h : w.ownsRow base e size v n cs) (hn : 0 < n) : ∃ g c, v = .slice (some ⟨g, 0, none⟩) n c ∧ base ≤ g ∧ g < w.heap.size := by
  rcases h.2 with ⟨_, h0⟩ | ⟨g, cap, cur, hv, hb, hg, _⟩
  · omega
  · exact ⟨g, cap, hv, hb, (Array.getElem?_eq_some_iff.1 hg).1⟩

def endB (xs : List R5) (i day : Int) : Bool := trL xs && (decide (0 ≤ i) && match xs[i.toNat]? with | some x => inR day x.c x.d | none => false)
def endV (xs : List R5) (i day : Int) : List R5 := if endB xs i day then match xs[i.toNat]? with | some x => xs.set i.toNat { x with d := day } | none => [] else []
theorem end_len {xs : List R5} {i day : Int} : (endV xs i day).length ≤ 20 := by
  unfold endV
  split
  · rename_i h
    simp only [endB, Bool.and_eq_true] at h
    split
    · rw [List.length_set]; exact trL_len h.1
    · simp
  · simp


end Go.Proofs.Ytpmklcpplpnlhaa
