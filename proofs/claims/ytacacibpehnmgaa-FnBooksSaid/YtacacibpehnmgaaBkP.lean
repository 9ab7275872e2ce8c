/- Stock book: what the law on books asks, in plain Lean: an inserted stamp is at its place, and removed again it leaves the book as it was; each stamp covers the millimeter at which it starts. -/
import Derived.Test.YtacacibpehnmgaaStoN
import Derived.Test.YtacacibpehnmgaaStoG
namespace Go.Proofs.Ytacacibpehnmgaa
set_option linter.unusedVariables false
set_option linter.unusedSimpArgs false
open Go.RowKit

theorem find_set {xs : List BR} {id : Int} {k : Nat} {x : BR} {ws : List Int} (hv : bookB xs = true) (hk : findV xs id = k) (hx : xs[k]? = some x) (hr : rowB ws = true) : findV (xs.set k ⟨x.id, ws⟩) id = k := by
  have hb : bookB (xs.set k ⟨x.id, ws⟩) = true := by rw [bookB_set ws hv hx]; exact hr
  unfold findV at hk ⊢
  rw [if_pos hv] at hk
  rw [if_pos hb]
  rcases idxV_cases (hasId id) xs with ⟨h1, _⟩ | ⟨k', x', h1, h2, h3, h4⟩
  · omega
  · have e : k' = k := by omega
    subst e
    rw [hx] at h2; injection h2 with h2; subst h2
    refine idxV_hit (x := ⟨x.id, ws⟩) (fun j y hj hy => ?_) (List.getElem?_set_self (List.getElem?_eq_some_iff.1 hx).1) (by simpa [hasId] using h3)
    rw [List.getElem?_set_ne (by omega)] at hy
    exact h4 j y hj hy
theorem cut_ins {ws : List Int} {j : Nat} (z : Int) (h : j ≤ ws.length) : cutV (insV ws j z) j = ws := by
  have hl : (ws.take j).length = j := by rw [List.length_take]; omega
  have e1 : (insV ws j z).take j = ws.take j := by
    unfold insV; rw [List.take_append_of_le_length (by omega), List.take_of_length_le (by omega)]
  have e2 : (insV ws j z).drop (j + 1) = ws.drop j := by
    unfold insV
    apply List.ext_getElem?
    intro q
    rw [List.getElem?_drop, List.getElem?_append_right (by omega), hl, show j + 1 + q - j = q + 1 by omega, List.getElem?_cons_succ]
  rw [cutV, e1, e2, List.take_append_drop]
theorem endV_ins {ws : List Int} {j : Nat} (z : Int) (h : j ≤ ws.length) : endV ws + z ≤ endV (insV ws j z) ∧ endV (insV ws j z) ≤ endV ws + z + 2 := by
  have hs : (insV ws j z).sum = ws.sum + z := by
    unfold insV
    rw [List.sum_append, List.sum_cons]
    have : ws.sum = (ws.take j).sum + (ws.drop j).sum := by rw [← List.sum_append, List.take_append_drop]
    omega
  unfold endV
  rw [hs, insV_len z h]
  omega
theorem rest_bd (xs : List BR) (id : Int) : 0 ≤ restV xs id ∧ restV xs id ≤ 200 := by
  unfold restV
  split
  · omega
  · rcases findV_cases xs id with h | ⟨hv, k, x, h, -, hk, hx, -, hrow⟩
    · omega
    · rw [h, atB_at hx]
      obtain ⟨h1, h2, h3⟩ := rowB_yes hrow
      have := endV_bd h1 (by omega)
      omega
/-- An inserted stamp, removed again. -/
theorem ins_facts {xs : List BR} {id i z : Int} (h : isB xs id i z = true) :
    rmB (isV xs id i z) id i = true ∧ rmV (isV xs id i z) id i = xs ∧ rmW (isV xs id i z) id i = z ∧ 0 ≤ findV xs id ∧ 0 ≤ findV (isV xs id i z) id ∧
    z ≤ restV xs id - restV (isV xs id i z) id ∧ restV xs id - restV (isV xs id i z) id ≤ z + 2 := by
  rcases is_ways xs id i z with ⟨-, hB⟩ | ⟨-, k, x, -, -, -, -, -, hB⟩ | ⟨hv, k, x, j, hf, hk, hx, hrow, rfl, hj, -, hB, hV⟩
  · rw [hB] at h; cases h
  · rw [hB] at h; cases h
  · rw [h] at hB
    have hr := hB.symm
    rw [hV hr]
    have hf2 := find_set hv hf hx hr
    have hx2 : (xs.set k ⟨x.id, insV x.ws j z⟩)[k]? = some ⟨x.id, insV x.ws j z⟩ := List.getElem?_set_self hk
    have hb : rmB (xs.set k ⟨x.id, insV x.ws j z⟩) id j = true := by
      rw [rmB, hf2, atB_at hx2, insV_len z hj]
      simp only [Bool.and_eq_true, decide_eq_true_eq]
      exact ⟨by omega, inR_true.2 (by omega)⟩
    have he := endV_ins z hj
    refine ⟨hb, ?_, ?_, by omega, by omega, ?_⟩
    · rw [rmV, if_pos hb, hf2, atB_at hx2, withV_at hx2]
      simp only [Int.toNat_natCast]
      rw [cut_ins z hj, List.set_set]
      apply List.ext_getElem?
      intro q
      by_cases e : k = q
      · subst e; rw [List.getElem?_set_self hk, hx]
      · rw [List.getElem?_set_ne e]
    · rw [rmW, if_pos hb, hf2, atB_at hx2]
      simp only [Int.toNat_natCast, insV]
      rw [List.getD_eq_getElem?_getD, List.getElem?_append_right (by rw [List.length_take]; omega), List.length_take, show j - min j x.ws.length = 0 by omega]
      rfl
    · rw [restV, restV, hf, hf2, atB_at hx, atB_at hx2, if_neg (by omega), if_neg (by omega)]
      simp only
      omega
theorem sum_take_mono {ws : List Int} (h : ∀ w ∈ ws, wdB w = true) : ∀ {k j : Nat}, j ≤ k → (ws.take j).sum ≤ (ws.take k).sum := by
  intro k j hjk
  have e : ws.take k = ws.take j ++ (ws.take k).drop j := by
    have h1 := List.take_append_drop j (ws.take k)
    rw [List.take_take, Nat.min_eq_left hjk] at h1
    exact h1.symm
  rw [e, List.sum_append]
  have := sum_bd (ws := (ws.take k).drop j) (fun w hw => h w (List.mem_of_mem_take (List.mem_of_mem_drop hw)))
  omega
/-- Each stamp covers the millimeter at which it starts. -/
theorem stamp_start {xs : List BR} {id s : Int} {k : Nat} (h : (stV xs id)[k]? = some s) : stB xs id s = true ∧ stampV xs id s = k ∧ (0 ≤ s ∧ s ≤ 199) := by
  unfold stV at h
  split at h
  · simp at h
  · rename_i hf
    rcases findV_cases xs id with e | ⟨hv, m, x, e, -, hm, hx, -, hrow⟩
    · omega
    rw [e, atB_at hx] at h
    obtain ⟨h1, h2, h3⟩ := rowB_yes hrow
    have hk : k < x.ws.length := by have := (List.getElem?_eq_some_iff.1 h).1; rwa [startsV_len] at this
    rw [startsV_get hk] at h
    injection h with h
    obtain ⟨w, hw⟩ : ∃ w, x.ws[k]? = some w := ⟨x.ws[k], List.getElem?_eq_getElem hk⟩
    have hwb := wdB_bd.1 (h1 w (List.mem_of_getElem? hw))
    have ht := sum_take1 hw
    have h0 := (sum_take_bd h1 (by omega) k (by omega)).1
    have hall : (x.ws.take (k + 1)).sum ≤ x.ws.sum := by
      have := sum_take_mono h1 (k := x.ws.length) (j := k + 1) (by omega)
      rwa [List.take_length] at this
    have hs : 0 ≤ s ∧ s ≤ 199 := by unfold endV at h3; omega
    have hb : stB xs id s = true := by
      simp only [stB, Bool.and_eq_true, decide_eq_true_eq]
      exact ⟨by omega, inR_true.2 hs⟩
    refine ⟨hb, ?_, hs⟩
    rw [stampV, if_pos hb, e, atB_at hx]
    refine cover_hit (fun j hj => ?_) hk ?_
    · obtain ⟨v, hv⟩ : ∃ v, x.ws[j]? = some v := ⟨x.ws[j], List.getElem?_eq_getElem (by omega)⟩
      have ht2 := sum_take1 hv
      have hm2 := sum_take_mono h1 (k := k) (j := j + 1) (by omega)
      unfold covB
      rw [List.getD_eq_getElem?_getD, hv]
      cases hc : inR s ((x.ws.take j).sum + 2 * (j : Int)) ((x.ws.take j).sum + 2 * (j : Int) + (some v).getD 0 - 1) with
      | false => rfl
      | true =>
        have := inR_true.1 hc
        simp only [Option.getD_some] at this
        omega
    · unfold covB
      rw [List.getD_eq_getElem?_getD, hw]
      refine inR_true.2 ?_
      simp only [Option.getD_some]
      omega
end Go.Proofs.Ytacacibpehnmgaa
