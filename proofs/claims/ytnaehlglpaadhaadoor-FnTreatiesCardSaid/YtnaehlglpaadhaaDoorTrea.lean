/- Copies, comparisons, marks of lists of Treaty. -/
import Derived.Test.YtnaehlglpaadhaaDoorIn
namespace Go.Proofs.YtnaehlglpaadhaaDoor
set_option linter.unusedVariables false
set_option linter.unusedSimpArgs false
open Go.RowKit

theorem info44 : (Tryd.prog.info? 44).map (fun i => (i.zero, i.size, i.bytes)) = some (some (.agg #[.int .i64 0, .int .i64 0, .int .i64 0, .int .i64 0, .int .i64 0]), 5, 40) := by kernel_rfl
theorem size44 : (Tryd.prog.info? 44).map (·.size) = some 5 := by kernel_rfl



/-- The loop's relation of toTreatyS. -/
def ToRel (W : World) (E g n : Nat) (xs : List R5) (k : Nat) (wr : World) : Prop :=
  ∃ rest, rest.length = (n - k) * 5 ∧ wr.ownsRow W.heap.size E 5 (.slice (some ⟨g, 0, none⟩) n n) n (cells5 (xs.take k) ++ rest) ∧ Below W.heap.size W wr
theorem ToRel.step {W wr w1 : World} {E g n k : Nat} {xs : List R5} {x : R5} (h : ToRel W E g n xs k wr) (hn : xs.length = n) (hk : xs[k]? = some x) (hb : Below wr.heap.size wr w1) (hg : W.heap.size ≤ g) :
    ToRel W E g n xs (k + 1) (w1.setCells g (k * 5) x.cells) := by
  obtain ⟨rest, hr, ho, hB⟩ := h
  have hkn : k < n := by have := (List.getElem?_eq_some_iff.1 hk).1; omega
  have hr' : rest.length = 5 + (n - (k + 1)) * 5 := by rw [hr]; have : n - k = (n - (k + 1)) + 1 := by omega
                                                       rw [this]; omega
  obtain ⟨old, post, rfl, ho5⟩ : ∃ old post, rest = old ++ post ∧ old.length = 5 := ⟨rest.take 5, rest.drop 5, by simp, by rw [List.length_take]; omega⟩
  have ho1 := own_below ho hb
  obtain ⟨h1, h2⟩ := own_setCells x.cells ho1 (k * 5)
  have hlen : (cells5 (xs.take k)).length = k * 5 := by rw [length_cells5, List.length_take]; congr 1; omega
  have hset := setAll_mid x.cells (cells5 (xs.take k)) old post (by rw [ho5]; rfl)
  rw [hlen] at hset
  rw [hset] at h1
  have htake : cells5 (xs.take (k + 1)) = cells5 (xs.take k) ++ x.cells := by
    rw [List.take_add_one, hk, cells5_append]; simp [cells5]
  refine ⟨post, by simp [ho5] at hr'; omega, ?_, (hB.trans (hb.mono hB.size)).grown h2 (Nat.le_trans hB.size hb.size) (fun j hj => by injection hj with hj; omega)⟩
  rw [htake, List.append_assoc]
  exact h1





end Go.Proofs.YtnaehlglpaadhaaDoor
