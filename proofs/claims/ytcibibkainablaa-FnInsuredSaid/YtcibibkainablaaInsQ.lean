/- What the law on insurances asks, in plain Lean. -/
import Derived.Test.YtcibibkainablaaInsG
import Derived.Test.YtcibibkainablaaInsO
import Derived.Test.YtcibibkainablaaList
namespace Go.Proofs.Ytcibibkainablaa
set_option linter.unusedVariables false
set_option linter.unusedSimpArgs false
open Go.RowKit

theorem sumF_sg (f : R5 → Int) (xs : List R5) (x : R5) : sumF f (sgL xs x) = sumF f xs + f x := by
  have key : ∀ a b : List R5, sumF f (a ++ b) = sumF f a + sumF f b := fun a b => by simp [sumF]
  have e : sumF f xs = sumF f (xs.take (posV xs x)) + sumF f (xs.drop (posV xs x)) := by rw [← key, List.take_append_drop]
  have e2 : sumF f (x :: xs.drop (posV xs x)) = f x + sumF f (xs.drop (posV xs x)) := by simp [sumF]
  rw [e, sgL, key, e2]
  omega
theorem sum_zero : ∀ ys : List R5, (ys.map (fun _ => (0 : Int))).sum = 0
  | [] => rfl
  | _ :: r => by simp [sum_zero r]
theorem cost_pos {x : R5} (h : insB x = true) : 1 ≤ costF x := by
  obtain ⟨-, -, -, h1, ⟨h2, -⟩, ⟨h3, -⟩⟩ := insB_bd h
  have a : 1 ≤ x.d * x.e := by
    have := Int.mul_le_mul h2 h3 (by omega) (by omega)
    omega
  have b : 1 ≤ x.d * x.e * (x.c - x.b + 1) := by
    have := Int.mul_le_mul a (show (1 : Int) ≤ x.c - x.b + 1 by omega) (by omega) (by omega)
    omega
  unfold costF
  omega
/-- One more insurance: the covers on its first and last day, and the cost. -/
theorem add_facts {xs : List R5} {x : R5} (h : sgB xs x = true) :
    covB xs x.a x.b = true ∧ covB (sgV xs x) x.a x.b = true ∧ covB xs x.a x.c = true ∧ covB (sgV xs x) x.a x.c = true ∧
    covV (sgV xs x) x.a x.b - covV xs x.a x.b = x.d ∧ covV (sgV xs x) x.a x.c - covV xs x.a x.c = x.d ∧ insL xs = true ∧ insL (sgV xs x) = true ∧ costV xs < costV (sgV xs x) := by
  have hV : sgV xs x = sgL xs x := by rw [sgV, if_pos h]
  simp only [sgB, Bool.and_eq_true] at h
  obtain ⟨hl, hx, hs⟩ := h
  obtain ⟨ha, hb, hc, hbc, -, -⟩ := insB_bd hx
  have q1 : ∀ ys d, insL ys = true → 0 ≤ d ∧ d ≤ 4000 → covB ys x.a d = true := fun ys d hy hd => by
    simp only [covB, Bool.and_eq_true]
    exact ⟨hy, inR_true.2 ha, inR_true.2 hd⟩
  have q2 : ∀ d, x.b ≤ d ∧ d ≤ x.c → 0 ≤ d ∧ d ≤ 4000 → covV (sgL xs x) x.a d - covV xs x.a d = x.d := fun d hd h4 => by
    have hf : covF x.a d x = x.d := by
      have : holdB x.a d x = true := by simp only [holdB, Bool.and_eq_true]; exact ⟨by simp, inR_true.2 hd⟩
      simp [covF, this]
    rw [covV, if_pos (q1 _ _ hs h4), covV, if_pos (q1 _ _ hl h4), cov, cov, sumF_sg, hf]
    omega
  rw [hV]
  refine ⟨q1 _ _ hl hb, q1 _ _ hs hb, q1 _ _ hl hc, q1 _ _ hs hc, q2 _ ⟨Int.le_refl _, hbc⟩ hb, q2 _ ⟨hbc, Int.le_refl _⟩ hc, hl, hs, ?_⟩
  rw [costV, if_pos hl, costV, if_pos hs, sumF_sg]
  have := cost_pos hx
  omega
/-- The parts paid: what they sum to. -/
theorem parts_sum (item day p cv : Int) (hcv : 1 ≤ cv) : ∀ xs : List R5, (xs.map (partF item day p cv)).sum * cv ≤ sumF (covF item day) xs * p ∧ sumF (covF item day) xs * p ≤ (xs.map (partF item day p cv)).sum * cv + xs.length * (cv - 1)
  | [] => by simp [sumF]
  | x :: r => by
    obtain ⟨h1, h2⟩ := parts_sum item day p cv hcv r
    have e1 : sumF (covF item day) (x :: r) = covF item day x + sumF (covF item day) r := by simp [sumF]
    have e2 : ((x :: r).map (partF item day p cv)).sum = partF item day p cv x + (r.map (partF item day p cv)).sum := by simp
    rw [e1, e2, Int.add_mul, Int.add_mul]
    have e3 : ((x :: r).length : Int) * (cv - 1) = (r.length : Int) * (cv - 1) + (cv - 1) := by rw [List.length_cons]; push_cast; rw [Int.add_mul, Int.one_mul]
    rw [e3]
    have h3 : partF item day p cv x * cv ≤ covF item day x * p ∧ covF item day x * p ≤ partF item day p cv x * cv + (cv - 1) := by
      unfold partF covF
      split
      · have d1 := Int.mul_ediv_add_emod (x.d * p) cv
        have d2 := Int.emod_nonneg (x.d * p) (show cv ≠ 0 by omega)
        have d3 := Int.emod_lt_of_pos (x.d * p) (show 0 < cv by omega)
        rw [Int.mul_comm] at d1
        omega
      · simp; omega
    omega
theorem paid_facts {xs : List R5} {item day worth : Int} (h : paidB xs item day worth = true) :
    covB xs item day = true ∧ paidV xs item day worth ≤ covV xs item day ∧ paidV xs item day worth ≤ worth ∧ (partsV xs item day worth).sum ≤ paidV xs item day worth ∧ paidV xs item day worth - (partsV xs item day worth).sum ≤ xs.length ∧ (partsV xs item day worth).length = xs.length ∧ (0 ≤ paidV xs item day worth ∧ paidV xs item day worth ≤ 10000000) ∧ (-12 ≤ (partsV xs item day worth).sum ∧ (partsV xs item day worth).sum ≤ 10000000) := by
  have h0 := h
  simp only [paidB, Bool.and_eq_true] at h0
  obtain ⟨hc, hw⟩ := h0
  have hw2 := inR_true.1 hw
  have hl : insL xs = true := by simp only [covB, Bool.and_eq_true] at hc; exact hc.1
  have hb := cov_bd hl item day
  have h12 := insL_len hl
  have hp : paidV xs item day worth = minV worth (cov xs item day) := by rw [paidV, if_pos h]; rfl
  have hcv : covV xs item day = cov xs item day := by rw [covV, if_pos hc]
  have hm : minV worth (cov xs item day) ≤ worth ∧ minV worth (cov xs item day) ≤ cov xs item day ∧ 0 ≤ minV worth (cov xs item day) := by unfold minV; split <;> omega
  have hP : partsV xs item day worth = xs.map (partF item day (minV worth (cov xs item day)) (cov xs item day)) := by rw [partsV, if_pos h]
  rw [hp, hcv, hP]
  obtain ⟨P, hPp⟩ : ∃ P, P = minV worth (cov xs item day) := ⟨_, rfl⟩
  rw [← hPp] at hm ⊢
  obtain ⟨S, hS⟩ : ∃ S, S = (xs.map (partF item day P (cov xs item day))).sum := ⟨_, rfl⟩
  rw [← hS]
  have hlen : (xs.map (partF item day P (cov xs item day))).length = xs.length := by simp
  by_cases h1 : 1 ≤ cov xs item day
  · obtain ⟨s1, s2⟩ := parts_sum item day P (cov xs item day) h1 xs
    rw [← hS] at s1 s2
    have hcc : sumF (covF item day) xs = cov xs item day := rfl
    rw [hcc] at s1 s2
    obtain ⟨V, hV⟩ : ∃ V, V = cov xs item day := ⟨_, rfl⟩
    rw [← hV] at s1 s2 h1 hm hb ⊢
    have g1 : S ≤ P := by
      apply Classical.byContradiction
      intro hn
      have := Int.mul_le_mul_of_nonneg_right (show P + 1 ≤ S by omega) (show 0 ≤ V by omega)
      rw [Int.add_mul, Int.one_mul, Int.mul_comm P V] at this
      omega
    have g2 : P - S ≤ xs.length := by
      apply Classical.byContradiction
      intro hn
      have := Int.mul_le_mul_of_nonneg_right (show S + (xs.length : Int) + 1 ≤ P by omega) (show 0 ≤ V by omega)
      rw [Int.add_mul, Int.add_mul, Int.one_mul, Int.mul_comm P V] at this
      rw [Int.mul_sub, Int.mul_one] at s2
      omega
    exact ⟨hc, hm.2.1, hm.1, g1, g2, by simp, ⟨by omega, by omega⟩, by omega, by omega⟩
  · have hc0 : cov xs item day = 0 := by omega
    have hP0 : P = 0 := by rw [hc0] at hm; omega
    have hz : ∀ x ∈ xs, partF item day P (cov xs item day) x = 0 := fun x hx => by
      unfold partF
      split
      · rw [hP0, hc0]; simp
      · rfl
    have hS0 : S = 0 := by
      rw [hS, List.map_congr_left hz]
      exact sum_zero xs
    exact ⟨hc, by omega, by omega, by omega, by omega, hlen, ⟨by omega, by omega⟩, by omega, by omega⟩
/-! ### The under-insured items -/
theorem uiN_mem {xs : List R5} {zs ws : List Int} {day z : Int} : ∀ {k : Nat}, z ∈ uiN xs zs ws day k ↔ ∃ j, j < k ∧ zs.getD j 0 = z ∧ cov xs (zs.getD j 0) day < ws.getD j 0
  | 0 => by simp [uiN]
  | k + 1 => by
    rw [uiN, List.mem_append, uiN_mem]
    constructor
    · rintro (⟨j, h1, h2, h3⟩ | h)
      · exact ⟨j, by omega, h2, h3⟩
      · split at h
        · rename_i hc
          rw [List.mem_singleton] at h
          exact ⟨k, by omega, h.symm, hc⟩
        · cases h
    · rintro ⟨j, h1, h2, h3⟩
      rcases Nat.lt_or_eq_of_le (show j ≤ k by omega) with h | h
      · exact .inl ⟨j, h, h2, h3⟩
      · subst h
        right
        rw [if_pos h3, List.mem_singleton]; exact h2.symm
theorem asc_lt {zs : List Int} (h : ascB zs = true) : ∀ {i j : Nat}, i < j → j < zs.length → zs.getD i 0 < zs.getD j 0 := by
  have hs : ∀ j : Nat, j + 1 < zs.length → zs.getD j 0 < zs.getD (j + 1) 0 := fun j hj => by
    apply Classical.byContradiction
    intro hn
    have e1 : zs[j]? = some (zs.getD j 0) := by rw [List.getD_eq_getElem?_getD, List.getElem?_eq_getElem (by omega)]; rfl
    have e2 : zs[j + 1]? = some (zs.getD (j + 1) 0) := by rw [List.getD_eq_getElem?_getD, List.getElem?_eq_getElem hj]; rfl
    have := ascB_no (k := j + 1) (by omega) (by simpa using e1) e2 hn
    rw [this] at h; cases h
  intro i j hij
  induction j with
  | zero => omega
  | succ j ih =>
    intro hj
    have h1 := hs j hj
    rcases Nat.lt_or_eq_of_le (show i ≤ j by omega) with h2 | h2
    · have := ih h2 (by omega); omega
    · subst h2; exact h1
theorem ui_fact {xs : List R5} {zs ws : List Int} {day : Int} (h : uiB xs zs ws day = true) {i : Nat} (hi : i < zs.length) :
    ws.length = zs.length ∧ paidB xs (zs.getD i 0) day (ws.getD i 0) = true ∧ decide (paidV xs (zs.getD i 0) day (ws.getD i 0) < ws.getD i 0) = hasB (uiV xs zs ws day) (zs.getD i 0) := by
  have h0 := h
  simp only [uiB, uiG, Bool.and_eq_true, decide_eq_true_eq] at h0
  obtain ⟨⟨hl, h12, hlen, hall, hasc, hday⟩, hw⟩ := h0
  have e1 : zs[i]? = some (zs.getD i 0) := by rw [List.getD_eq_getElem?_getD, List.getElem?_eq_getElem hi]; rfl
  have e2 : ws[i]? = some (ws.getD i 0) := by rw [List.getD_eq_getElem?_getD, List.getElem?_eq_getElem (by omega)]; rfl
  have hp : paidB xs (zs.getD i 0) day (ws.getD i 0) = true := by
    simp only [paidB, covB, Bool.and_eq_true]
    exact ⟨⟨hl, inAll_at hall e1, hday⟩, inAll_at hw e2⟩
  refine ⟨hlen, hp, ?_⟩
  rw [paidV, if_pos hp]
  have hm : zs.getD i 0 ∈ uiV xs zs ws day ↔ cov xs (zs.getD i 0) day < ws.getD i 0 := by
    rw [uiV, if_pos h, uiN_mem]
    constructor
    · rintro ⟨j, h1, h2, h3⟩
      rcases Nat.lt_trichotomy i j with h4 | h4 | h4
      · have := asc_lt hasc h4 h1; omega
      · subst h4; exact h3
      · have := asc_lt hasc h4 hi; omega
    · intro h3; exact ⟨i, hi, rfl, h3⟩
  by_cases hc : cov xs (zs.getD i 0) day < ws.getD i 0
  · rw [hasB_true.2 (hm.2 hc)]
    by_cases h5 : ws.getD i 0 < cov xs (zs.getD i 0) day
    · exact absurd (Int.lt_trans h5 hc) (Int.lt_irrefl _)
    · rw [if_neg h5]; exact decide_eq_true hc
  · rw [hasB_false.2 (fun h => hc (hm.1 h))]
    by_cases h5 : ws.getD i 0 < cov xs (zs.getD i 0) day
    · rw [if_pos h5]; exact decide_eq_false (Int.lt_irrefl _)
    · rw [if_neg h5]; exact decide_eq_false hc
end Go.Proofs.Ytcibibkainablaa
