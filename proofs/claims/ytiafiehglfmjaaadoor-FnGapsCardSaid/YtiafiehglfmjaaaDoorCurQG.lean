/- The bytes that the law on gaps is handed. -/
import Derived.Test.YtiafiehglfmjaaaDoorCurP2
import Derived.Test.YtiafiehglfmjaaaDoorOpen
import Derived.ChangeSlices
namespace Go.Proofs.YtiafiehglfmjaaaDoor
set_option linter.unusedVariables false
set_option linter.unusedSimpArgs false
open Go.RowKit

set_option maxHeartbeats 400000 in
theorem rBig_any (B : Option Addr) (n c : Nat) (w : World) (hn : n ≤ maxLen) : Calls Tryd.prog 4 #[.slice B n c] w (RetS (.bool (decide ((65536 : Int) < n))) w) := by
  unfold maxLen at hn
  go_enter Tryd.func4, Tryd.ntmps4
  go_wp2
  go_ret
  exact ⟨ret_bool (by first | rfl | (simp; done) | (simp; omega)), rfl⟩

section
open Go.ChangeShapes Go.WideShapes Go.ChangeAt Go.Deep
variable {H : Type} {enc : TypeId × Value → H} {P : Program} {w : World} {base : Nat} {spare : Nat → Bool} {held : Bool}
theorem openU {t e : TypeId} {A : Option Addr} {len cap : Nat} {d : DataW H} {p : List MemPlace} (ht : P.underlying t = some (.slice e)) (he : P.underlying e = some (.int .u8)) (hC : P.cellsOf e = 1)
    (h : DataW.Trod enc P w base spare held t (.slice A len cap) d p) : ∃ zs : List Int, zs.length = len ∧ Rd w A (cellsU zs) ∧ len ≤ maxLen ∧ ∀ z ∈ zs, 0 ≤ z ∧ z ≤ 255 := by
  obtain ⟨fuel, hf⟩ := h
  rcases open_ints ht he hC hf with ⟨hcs, _⟩ | ⟨a, l, c, zs, hcs, _, hl, hm, hlen, _, hcell, hwf⟩
  · simp [Value.cells] at hcs
    obtain ⟨rfl, rfl, rfl⟩ := hcs
    exact ⟨[], rfl, .inl rfl, Nat.zero_le _, by simp⟩
  · simp [Value.cells] at hcs
    obtain ⟨rfl, rfl, rfl⟩ := hcs
    have hlz : len ≤ zs.length := by rw [hlen]; split <;> omega
    refine ⟨zs.take len, by rw [List.length_take]; omega, ?_, by omega, fun z hz => ?_⟩
    · rcases Nat.eq_zero_or_pos len with h0 | hpos
      · left; subst h0; rfl
      · right
        obtain ⟨g, o, sp⟩ := a
        have hc0 := hcell 0 (by omega)
        have hsp : sp = none := by
          have := World.cell?_spot hc0
          simpa [Addr.add] using this
        subst hsp
        refine ⟨g, o, rfl, ?_, fun q v hq => ?_⟩
        · have := World.block_lt_of_cell? w _ hc0
          rw [Addr.add_mid] at this; exact this
        · have hql : q < len := by have := (List.getElem?_eq_some_iff.1 hq).1; simp [cellsU] at this; omega
          have h1 := hcell q (by omega)
          rw [Addr.add_mid] at h1
          rw [h1, ← hq]
          simp [cellsU, List.getElem?_take, hql, show q < zs.length by omega]
    · have := hwf z (List.mem_of_mem_take hz)
      simp only [Lit.wf, Bool.and_eq_true, decide_eq_true_eq] at this
      have h1 : IntKind.u8.min = 0 := by decide
      have h2 : IntKind.u8.max = 255 := by decide
      omega
end
end Go.Proofs.YtiafiehglfmjaaaDoor
