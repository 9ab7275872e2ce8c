/- Chains and shares: what the law on chains asks, in plain Lean. -/
import Derived.Test.YtpmklcpplpnlhaaTreN
import Derived.Test.YtpmklcpplpnlhaaTreL
namespace Go.Proofs.Ytpmklcpplpnlhaa
set_option linter.unusedVariables false
set_option linter.unusedSimpArgs false
open Go.RowKit

theorem shL_sum (xs : List R5) (day : Int) : ∀ (zs : List Int) (left : Int), zs ≠ [] → (shL xs day zs left).sum = left
  | [], _, h => absurd rfl h
  | [_], left, _ => by simp [shL]
  | y :: z :: r, left, _ => by
    rw [shL, List.sum_cons, shL_sum xs day (z :: r) _ (by simp)]
    omega
theorem sh_sum {xs : List R5} {zs : List Int} {day p : Int} (h : shB xs zs day p = true) : (shV xs zs day p).sum = p ∧ (shV xs zs day p).length = zs.length := by
  have h2 := h
  simp only [shB, Bool.and_eq_true] at h2
  have hl := (chainB_at h2.2.2.2).1
  rw [shV, if_pos h]
  exact ⟨shL_sum xs day zs p (by rintro rfl; simp at hl), length_shL xs day zs p⟩
section
variable {adj : Int → Int → Bool}
theorem Path.cut {a b : Int} {R : List Int} (h : Path adj a b R) {i j : Nat} (hi : i < R.length) (hj : j < R.length) (hij : i < j) (e : R[i] = R[j]) : Path adj a b (R.take i ++ R.drop j) := by
  have hl : (R.take i).length = i := by rw [List.length_take]; omega
  refine ⟨?_, ?_, ?_, ?_⟩
  · rcases Nat.eq_zero_or_pos i with h0 | h0
    · subst h0
      simp only [List.take_zero, List.nil_append, List.getElem?_drop, Nat.add_zero]
      rw [List.getElem?_eq_getElem hj, ← e, ← List.getElem?_eq_getElem hi]; exact h.first
    · rw [List.getElem?_append_left (by omega), List.getElem?_take, if_pos h0]; exact h.first
  · rw [List.length_append, hl, List.length_drop, List.getElem?_append_right (by omega), hl, List.getElem?_drop, show j + (i + (R.length - j) - 1 - i) = R.length - 1 by omega]; exact h.last
  · intro k x y h1 h2
    rcases Nat.lt_or_ge (k + 1) i with hk | hk
    · rw [List.getElem?_append_left (by omega), List.getElem?_take, if_pos (by omega)] at h1 h2
      exact h.wk k x y h1 h2
    · rw [List.getElem?_append_right (by omega), hl, List.getElem?_drop] at h2
      rcases Nat.lt_or_ge k i with hk2 | hk2
      · rw [List.getElem?_append_left (by omega), List.getElem?_take, if_pos (by omega)] at h1
        rw [show j + (k + 1 - i) = j by omega, List.getElem?_eq_getElem hj, ← e, ← List.getElem?_eq_getElem hi] at h2
        exact h.wk k x y h1 (by rw [show k + 1 = i by omega]; exact h2)
      · rw [List.getElem?_append_right (by omega), hl, List.getElem?_drop] at h1
        exact h.wk (j + (k - i)) x y h1 (by rw [← h2]; congr 1; omega)
  · intro x hx
    rcases List.mem_append.1 hx with hx | hx
    · exact h.inP x (List.mem_of_mem_take hx)
    · exact h.inP x (List.mem_of_mem_drop hx)
theorem Best.nodup {a b : Int} {R : List Int} (h : Best adj a b R) : R.Nodup := by
  apply Classical.byContradiction
  intro hd
  rw [List.Nodup, List.pairwise_iff_getElem] at hd
  simp only [Classical.not_forall, Decidable.not_not] at hd
  obtain ⟨i, j, hi, hj, hij, e⟩ := hd
  have hS := h.1.cut hi hj hij e
  have hlen : (R.take i ++ R.drop j).length < R.length := by simp; omega
  have h1 := code_len hS.inP h.1.inP hlen
  have h2 := h.2 _ hS
  omega
theorem Best.rev_len {a b : Int} {R S : List Int} (G : Graph adj) (h : Best adj a b R) (g : Best adj b a S) : S.length ≤ R.length := by
  apply Classical.byContradiction
  intro hn
  have h1 := h.1.rev G
  have h2 := code_len h1.inP g.1.inP (by rw [List.length_reverse]; omega)
  have h3 := g.2 _ h1
  omega
theorem chV_sym {a b : Int} (G : Graph adj) : (chV adj b a).length = (chV adj a b).length := by
  by_cases hr : Reach adj a b
  · obtain ⟨R, hR⟩ := hr.best
    obtain ⟨S, hS⟩ := (hr.sym G).best
    rw [chV_best hR, chV_best hS, List.length_reverse, List.length_reverse]
    have := hR.rev_len G hS
    have := hS.rev_len G hR
    omega
  · have hr2 : ¬ Reach adj b a := fun h => hr (h.sym G)
    rw [chV_none hr, chV_none hr2]
end
theorem askB_sym (xs : List R5) (a b day : Int) : askB xs b a day = askB xs a b day := by
  unfold askB
  rw [show decide (b ≠ a) = decide (a ≠ b) by simp [eq_comm]]
  cases trL xs <;> cases inR a 0 8 <;> cases inR b 0 8 <;> rfl
theorem sc_sym {xs : List R5} {a b day : Int} : scB xs b a day = scB xs a b day ∧ (scV xs b a day).length = (scV xs a b day).length := by
  cases hq : askB xs a b day with
  | false => simp [scB, scV, askB_sym, hq]
  | true =>
    have G := graphT (askB_yes hq).1 day
    have := chV_sym (adj := adjT xs day) (a := a) (b := b) G
    simp [scB, scV, askB_sym, hq, this]
theorem sc_chain {xs : List R5} {a b day : Int} (h : scB xs a b day = true) : shB xs (scV xs a b day) day 1000 = true := by
  simp only [scB, Bool.and_eq_true, decide_eq_true_eq] at h
  obtain ⟨hq, hpos⟩ := h
  obtain ⟨hv, ha, hb, hab, hday⟩ := askB_yes hq
  have G := graphT hv day
  obtain ⟨R, hR⟩ := (chV_pos.1 hpos).best
  have hV : scV xs a b day = R.reverse := by rw [scV, if_pos hq, chV_best hR]
  have hp := hR.1.pos
  have h2 : 2 ≤ R.length := by
    rcases Nat.lt_or_ge R.length 2 with hl | hl
    · exfalso
      have h1 := hR.1.first
      have h3 := hR.1.last
      rw [show R.length - 1 = 0 by omega, h1] at h3
      injection h3 with h3
      exact hab h3.symm
    · exact hl
  have h9 := hR.len9
  rw [hV]
  simp only [shB, hv, Bool.true_and, Bool.and_eq_true]
  refine ⟨inR_true.2 hday, inR_true.2 (by omega), ?_⟩
  simp only [chainB, Bool.and_eq_true, decide_eq_true_eq, List.all_eq_true, List.mem_range, List.length_reverse]
  refine ⟨⟨h2, h9⟩, fun i hi => ?_⟩
  have hi2 : i < R.reverse.length := by simpa using hi
  have hz : R.reverse[i]? = some R.reverse[i] := List.getElem?_eq_getElem hi2
  have hmem : R.reverse[i] ∈ R := List.mem_reverse.1 (List.getElem_mem hi2)
  simp only [okC, hz, Bool.and_eq_true, Bool.not_eq_true', Bool.or_eq_true]
  refine ⟨inR_true.2 (hR.1.inP _ hmem), ?_, ?_⟩
  · rw [hasB_false]
    intro hm
    obtain ⟨q, hq1, hq2⟩ := List.getElem_of_mem hm
    have hql : q < i := by simp at hq1; omega
    have hnd : R.reverse.Pairwise (· ≠ ·) := List.pairwise_reverse.2 (hR.nodup.imp (fun h => Ne.symm h))
    rw [List.pairwise_iff_getElem] at hnd
    have := hnd q i (by omega) hi2 hql
    rw [List.getElem_take] at hq2
    exact this hq2
  · by_cases h0 : i = 0
    · left; simp [h0]
    · right
      have hy : R.reverse[i - 1]? = some R.reverse[i - 1] := List.getElem?_eq_getElem (by omega)
      simp only [hy, decide_eq_true_eq]
      have e1 : R[R.length - 1 - i]? = some R.reverse[i] := by rw [List.getElem_reverse, ← List.getElem?_eq_getElem]
      have e2 : R[R.length - 1 - i + 1]? = some R.reverse[i - 1] := by
        rw [List.getElem_reverse, show R.length - 1 - i + 1 = R.length - 1 - (i - 1) by omega, ← List.getElem?_eq_getElem]
      have := hR.1.wk _ _ _ e1 e2
      simp only [adjT, decide_eq_true_eq] at this
      rw [atV_sym]; exact this
/-- The first day. -/
theorem fcF_found {xs : List R5} {a b : Int} : ∀ (k : Nat) (d f : Int), fcF xs a b k d = (f, true) → (d ≤ f ∧ f < d + k) ∧ chB xs a b f = true ∧ ∀ e, d ≤ e → e < f → chB xs a b e = false
  | 0, d, f, h => by rw [fcF] at h; cases h
  | k + 1, d, f, h => by
    rw [fcF] at h
    split at h
    · rename_i hc
      injection h with h1 _
      subst h1
      exact ⟨⟨Int.le_refl _, by omega⟩, hc, fun e h1 h2 => by omega⟩
    · rename_i hc
      obtain ⟨⟨h1, h2⟩, h3, h4⟩ := fcF_found k (d + 1) f h
      refine ⟨⟨by omega, by omega⟩, h3, fun e e1 e2 => ?_⟩
      by_cases e3 : d < e
      · exact h4 e (by omega) e2
      · obtain rfl : e = d := by omega
        simpa using hc
theorem fc_found {xs : List R5} {a b d f : Int} (h : fcV xs a b d = (f, true)) : (d ≤ f ∧ f ≤ 4000) ∧ 0 ≤ d ∧ scB xs a b f = true ∧ (d < f → scB xs a b (f - 1) = false) := by
  unfold fcV at h
  split at h
  · rename_i hq
    obtain ⟨hv, ha, hb, hab, hday⟩ := askB_yes hq
    obtain ⟨⟨h1, h2⟩, h3, h4⟩ := fcF_found _ _ _ h
    have hq2 : ∀ e, 0 ≤ e ∧ e ≤ 4000 → askB xs a b e = true := fun e he => by
      simp only [askB, Bool.and_eq_true] at hq ⊢
      exact ⟨hq.1, hq.2.1, hq.2.2.1, hq.2.2.2.1, inR_true.2 he⟩
    have hf : f ≤ 4000 := by omega
    refine ⟨⟨h1, hf⟩, hday.1, ?_, fun hlt => ?_⟩
    · rw [scB, hq2 f (by omega)]; exact h3
    · rw [scB, hq2 (f - 1) (by omega)]; exact h4 (f - 1) (by omega) (by omega)
  · cases h
end Go.Proofs.Ytpmklcpplpnlhaa
