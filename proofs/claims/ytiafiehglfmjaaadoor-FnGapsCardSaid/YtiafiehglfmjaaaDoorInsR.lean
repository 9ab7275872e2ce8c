/- Gaps, greatest covers, spans: what the law on gaps asks, in plain Lean. -/
import Derived.Test.YtiafiehglfmjaaaDoorInsF
import Derived.Test.YtiafiehglfmjaaaDoorInsC
import Derived.Test.YtiafiehglfmjaaaDoorInsD
namespace Go.Proofs.YtiafiehglfmjaaaDoor
set_option linter.unusedVariables false
set_option linter.unusedSimpArgs false
open Go.RowKit

theorem gapFrom_found {xs : List R5} {item : Int} : ∀ (k : Nat) (d g : Int), gapFrom xs item k d = (g, true) → (d ≤ g ∧ g < d + k) ∧ cov xs item g = 0 ∧ ∀ e, d ≤ e → e < g → cov xs item e ≠ 0
  | 0, d, g, h => by rw [gapFrom] at h; cases h
  | k + 1, d, g, h => by
    rw [gapFrom] at h
    split at h
    · rename_i hc
      injection h with h1 _
      subst h1
      exact ⟨⟨Int.le_refl _, by omega⟩, hc, fun e h1 h2 => by omega⟩
    · rename_i hc
      obtain ⟨⟨h1, h2⟩, h3, h4⟩ := gapFrom_found k (d + 1) g h
      refine ⟨⟨by omega, by omega⟩, h3, fun e e1 e2 => ?_⟩
      by_cases e3 : d < e
      · exact h4 e (by omega) e2
      · obtain rfl : e = d := by omega
        exact hc
theorem gapL_found {xs : List R5} {item g : Int} : ∀ {ys : List R5}, gapL xs item ys = (g, true) → ∃ x ∈ ys, x.a = item ∧ gapFrom xs item (4001 - x.b).toNat x.b = (g, true)
  | [], h => by rw [gapL] at h; cases h
  | x :: r, h => by
    rw [gapL] at h
    split at h
    · rename_i hc
      exact ⟨x, List.mem_cons_self .., hc, h⟩
    · obtain ⟨y, h1, h2, h3⟩ := gapL_found h
      exact ⟨y, List.mem_cons_of_mem _ h1, h2, h3⟩
/-- The first gap: no cover on it, some on the day before. -/
theorem gap_found {xs : List R5} {item g : Int} (h : gapV xs item = (g, true)) : covB xs item g = true ∧ covV xs item g = 0 ∧ covB xs item (g - 1) = true ∧ covV xs item (g - 1) ≠ 0 ∧ 0 ≤ g ∧ g ≤ 4000 := by
  unfold gapV at h
  split at h
  · rename_i hb
    simp only [gapB, Bool.and_eq_true] at hb
    obtain ⟨x, hx, hxa, hg⟩ := gapL_found h
    obtain ⟨⟨h1, h2⟩, h3, h4⟩ := gapFrom_found _ _ _ hg
    have hxb := insB_bd (insL_mem hb.1 hx)
    have hc := cov_from hb.1 hx hxa
    have hlt : x.b < g := by
      rcases Int.lt_or_eq_of_le h1 with h5 | h5
      · exact h5
      · rw [← h5] at h3; omega
    have q : ∀ d, 0 ≤ d ∧ d ≤ 4000 → covB xs item d = true := fun d hd => by simp only [covB, Bool.and_eq_true]; exact ⟨hb.1, hb.2, inR_true.2 hd⟩
    have hg4 : g ≤ 4000 := by omega
    refine ⟨q g (by omega), ?_, q (g - 1) (by omega), ?_, by omega, hg4⟩
    · rw [covV, if_pos (q g (by omega))]; exact h3
    · rw [covV, if_pos (q (g - 1) (by omega))]; exact h4 _ (by omega) (by omega)
  · cases h
theorem gc_exists (xs : List R5) (item : Int) : ∀ j : Nat, ∃ B M, GcP xs item j B M
  | 0 => ⟨0, 0, .inl ⟨rfl, rfl, fun d h1 h2 => by omega⟩⟩
  | j + 1 => by
    obtain ⟨B, M, h⟩ := gc_exists xs item j
    by_cases hs : M < cov xs item j
    · exact ⟨_, _, h.new (by omega) hs⟩
    · exact ⟨_, _, h.old (by omega) (by omega)⟩
theorem gc_facts {xs : List R5} {item : Int} (h : gcB xs item = true) : insL xs = true ∧ (0 ≤ (gcV xs item).1 ∧ (gcV xs item).1 ≤ 4000) ∧ covB xs item (gcV xs item).1 = true ∧ covV xs item (gcV xs item).1 = (gcV xs item).2 ∧
    ∀ d, 0 ≤ d ∧ d ≤ 4000 → covB xs item d = true ∧ covV xs item d ≤ (gcV xs item).2 := by
  obtain ⟨B, M, hp⟩ := gc_exists xs item 4001
  have hp : GcP xs item 4001 B M := hp
  obtain ⟨e1, e2⟩ := gcV_eq h hp
  rw [← e1, ← e2]
  simp only [gcB, Bool.and_eq_true] at h
  have q : ∀ d, 0 ≤ d ∧ d ≤ 4000 → covB xs item d = true ∧ covV xs item d = cov xs item d := fun d hd => by
    have : covB xs item d = true := by simp only [covB, Bool.and_eq_true]; exact ⟨h.1, h.2, inR_true.2 hd⟩
    exact ⟨this, by rw [covV, if_pos this]⟩
  rcases hp with ⟨hM, hB, hall⟩ | ⟨hM, hB0, hB1, hc, hall⟩
  · subst hM; subst hB
    have h0 := hall 0 (by omega) (by omega)
    have h1 := (cov_bd h.1 item 0).1
    refine ⟨h.1, by omega, (q 0 (by omega)).1, by rw [(q 0 (by omega)).2]; omega, fun d hd => ⟨(q d hd).1, by rw [(q d hd).2]; exact hall d hd.1 (by omega)⟩⟩
  · exact ⟨h.1, by omega, (q B (by omega)).1, by rw [(q B (by omega)).2]; exact hc, fun d hd => ⟨(q d hd).1, by rw [(q d hd).2]; exact (hall d hd.1 (by omega)).1⟩⟩
/-- Spans add up. -/
theorem uncN_add (xs : List R5) (item d0 : Int) (a : Nat) : ∀ b : Nat, uncN xs item d0 (a + b) = uncN xs item d0 a + uncN xs item (d0 + a) b
  | 0 => by simp [uncN]
  | b + 1 => by
    rw [← Nat.add_assoc, uncN, uncN_add xs item d0 a b, uncN, show d0 + ((a + b : Nat) : Int) = d0 + (a : Int) + (b : Int) by omega]
    omega
theorem unc_split {xs : List R5} {item d0 d1 m : Int} (h : uncB xs item d0 d1 = true) (hm : m = (d0 + d1) / 2) :
    uncB xs item d0 m = true ∧ uncB xs item (m + 1) d1 = decide (m < d1) ∧ uncV xs item d0 m + uncV xs item (m + 1) d1 = uncV xs item d0 d1 ∧ (0 ≤ d0 ∧ d1 ≤ 4000 ∧ d0 ≤ m ∧ m ≤ d1) := by
  have h0 := h
  simp only [uncB, Bool.and_eq_true, decide_eq_true_eq] at h0
  obtain ⟨h1, h2, h3, h4, h5⟩ := h0
  have h3 := inR_true.1 h3
  have h4 := inR_true.1 h4
  have hb : d0 ≤ m ∧ m ≤ d1 := by omega
  have q1 : uncB xs item d0 m = true := by simp only [uncB, Bool.and_eq_true, decide_eq_true_eq]; exact ⟨h1, h2, inR_true.2 h3, inR_true.2 (by omega), hb.1⟩
  by_cases hlt : m < d1
  · have q2 : uncB xs item (m + 1) d1 = true := by simp only [uncB, Bool.and_eq_true, decide_eq_true_eq]; exact ⟨h1, h2, inR_true.2 (by omega), inR_true.2 h4, by omega⟩
    refine ⟨q1, by rw [q2, decide_eq_true hlt], ?_, by omega⟩
    rw [uncV, if_pos q1, uncV, if_pos q2, uncV, if_pos h]
    have := uncN_add xs item d0 (m + 1 - d0).toNat (d1 + 1 - (m + 1)).toNat
    rw [show (m + 1 - d0).toNat + (d1 + 1 - (m + 1)).toNat = (d1 + 1 - d0).toNat by omega, show d0 + ((m + 1 - d0).toNat : Int) = m + 1 by omega] at this
    omega
  · have hmd : m = d1 := by omega
    have q2 : uncB xs item (m + 1) d1 = false := by
      cases hq : uncB xs item (m + 1) d1 with
      | false => rfl
      | true => simp only [uncB, Bool.and_eq_true, decide_eq_true_eq] at hq; omega
    refine ⟨q1, by rw [q2, decide_eq_false hlt], ?_, by omega⟩
    rw [uncV, if_pos q1, uncV, q2, uncV, if_pos h, hmd]
    simp
end Go.Proofs.YtiafiehglfmjaaaDoor
