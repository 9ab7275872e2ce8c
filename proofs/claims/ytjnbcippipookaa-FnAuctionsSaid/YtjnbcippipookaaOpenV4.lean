/- An argument that is a struct of four ints, by value: it holds four ints. -/
import Derived.Test.YtjnbcippipookaaOpen
namespace Go.Proofs.Ytjnbcippipookaa
set_option linter.unusedVariables false
set_option linter.unusedSimpArgs false
open Go.ChangeShapes Go.WideShapes Go.ChangeAt Go.RowKit Go.Deep
structure R4 where
  a : Int
  b : Int
  c : Int
  d : Int
section
variable {H : Type} {enc : TypeId × Value → H} {P : Program} {w : World} {base base' : Nat} {spare : Nat → Bool} {held : Bool}
theorem openV4 {t ti : TypeId} {f0 f1 f2 f3 : Field} {v : Value} {d : DataW H} {p : List MemPlace} {r : Reach} (he : P.underlying t = some (.struct #[f0, f1, f2, f3]))
    (hone : oneCellFields P #[f0, f1, f2, f3] = true) (hC : P.cellsOf t = 4) (hti : P.underlying ti = some (.int .i64)) (h0 : f0.type = ti) (h1 : f1.type = ti) (h2 : f2.type = ti) (h3 : f3.type = ti)
    (hok : Value.okWide P w r base' t v) (h : DataW.Trod enc P w base spare held t v d p) : ∃ x : R4, v = .agg #[.int .i64 x.a, .int .i64 x.b, .int .i64 x.c, .int .i64 x.d] := by
  obtain ⟨cs, rfl, hs⟩ := okWide_struct he hok
  obtain ⟨fuel, hf⟩ := h
  rw [hC] at hs
  obtain ⟨ys, n, -, -, -, hyl, hj⟩ := DataW.trod_struct he hf
  have key : ∀ (j : Nat) (f : Field), #[f0, f1, f2, f3][j]? = some f → f.type = ti → j < 4 → ∃ z, cs[j]? = some (.int .i64 z) := by
    intro j f hjf hft hj4
    obtain ⟨ho, hk⟩ := hone_of hone j f hjf
    have h1 := hj j f hjf
    have hyl' : ys.length = 4 := by simpa using hyl
    rw [ho, hk] at h1
    have e : ((Value.agg cs).cells.toList.drop j).take 1 = [cs[j]'(by omega)] := by
      simp only [Value.cells]
      rw [List.drop_eq_getElem_cons (by simp; omega)]
      simp
    rw [e, hft, List.getElem?_eq_getElem (by omega)] at h1
    obtain ⟨z, hz, -, -⟩ := DataW.trod_int hti h1
    simp only [List.cons.injEq, and_true] at hz
    exact ⟨z, by rw [Array.getElem?_eq_getElem (by omega), hz]⟩
  obtain ⟨z0, k0⟩ := key 0 f0 rfl h0 (by omega)
  obtain ⟨z1, k1⟩ := key 1 f1 rfl h1 (by omega)
  obtain ⟨z2, k2⟩ := key 2 f2 rfl h2 (by omega)
  obtain ⟨z3, k3⟩ := key 3 f3 rfl h3 (by omega)
  refine ⟨⟨z0, z1, z2, z3⟩, ?_⟩
  congr 1
  apply Array.ext_getElem?
  intro i
  by_cases hi : i < 4
  · have : i = 0 ∨ i = 1 ∨ i = 2 ∨ i = 3 := by omega
    rcases this with rfl | rfl | rfl | rfl <;> first | exact k0 | exact k1 | exact k2 | exact k3
  · rw [Array.getElem?_eq_none (by omega), Array.getElem?_eq_none (by simp; omega)]
end
end Go.Proofs.Ytjnbcippipookaa
