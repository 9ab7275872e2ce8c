/- The first day with a chain: plain law. A chain that is not there the day before begins with a treaty. -/
import Derived.Test.YtnaehlglpaadhaaDoorTreE
namespace Go.Proofs.YtnaehlglpaadhaaDoor
set_option linter.unusedVariables false
set_option linter.unusedSimpArgs false
open Go.RowKit

noncomputable def chB (xs : List R5) (a b d : Int) : Bool := decide (0 < (chV (adjT xs d) a b).length)
theorem chB_reach {xs : List R5} {a b d : Int} : chB xs a b d = true ↔ Reach (adjT xs d) a b := by
  unfold chB; rw [decide_eq_true_eq]; exact chV_pos
theorem chB_prev {xs : List R5} {a b d : Int} (h : chB xs a b d = true) (hx : ∀ x ∈ xs, x.c ≠ d) : chB xs a b (d - 1) = true := by
  rw [chB_reach] at h ⊢
  refine h.mono fun u v he => ?_
  obtain ⟨x, hm, hh⟩ := adjT_true.1 he
  refine adjT_true.2 ⟨x, hm, ?_⟩
  have := hx x hm
  simp only [hitB, decide_eq_true_eq] at hh ⊢
  exact ⟨hh.1, by omega⟩
/-- The first of the next k days, from a day on, with a chain. -/
noncomputable def fcF (xs : List R5) (a b : Int) : Nat → Int → Int × Bool
  | 0, _ => (0, false)
  | k + 1, d => if chB xs a b d then (d, true) else fcF xs a b k (d + 1)
theorem fcF_yes {xs : List R5} {a b d : Int} (h : chB xs a b d = true) (hd : d ≤ 4000) : fcF xs a b (4001 - d).toNat d = (d, true) := by
  rw [show (4001 - d).toNat = (4001 - (d + 1)).toNat + 1 by omega, fcF, if_pos h]
theorem fcF_no {xs : List R5} {a b d : Int} (h : chB xs a b d = false) (hd : d ≤ 4000) : fcF xs a b (4001 - d).toNat d = fcF xs a b (4001 - (d + 1)).toNat (d + 1) := by
  rw [show (4001 - d).toNat = (4001 - (d + 1)).toNat + 1 by omega, fcF, if_neg (by rw [h]; simp)]
theorem fcF_end {xs : List R5} {a b d : Int} (hd : 4000 < d) : fcF xs a b (4001 - d).toNat d = (0, false) := by
  rw [show (4001 - d).toNat = 0 by omega, fcF]
/-- No chain on the next m days. -/
theorem fcF_skip {xs : List R5} {a b : Int} : ∀ (m : Nat) {d : Int}, (∀ j : Nat, j < m → chB xs a b (d + j) = false) → d + m ≤ 4001 → fcF xs a b (4001 - d).toNat d = fcF xs a b (4001 - (d + m)).toNat (d + m)
  | 0, d, _, _ => by simp
  | m + 1, d, h, hd => by
    have h0 := h 0 (by omega)
    rw [Int.natCast_zero, Int.add_zero] at h0
    rw [fcF_no h0 (by omega), fcF_skip m (fun j hj => by have := h (j + 1) (by omega); rw [show d + 1 + (j : Int) = d + ((j + 1 : Nat) : Int) by omega]; exact this) (by omega)]
    rw [show d + 1 + (m : Int) = d + ((m + 1 : Nat) : Int) by omega]
/-- Where there is none on day d and one m days on, one begins with a treaty between them. -/
theorem first_begin {xs : List R5} {a b : Int} : ∀ (m : Nat) {d : Int}, chB xs a b d = false → chB xs a b (d + m) = true → ∃ j : Nat, 0 < j ∧ j ≤ m ∧ chB xs a b (d + j) = true ∧ (∃ x ∈ xs, x.c = d + j) ∧ ∀ i : Nat, i < j → chB xs a b (d + i) = false
  | 0, d, h, h' => by rw [Int.natCast_zero, Int.add_zero] at h'; rw [h] at h'; cases h'
  | m + 1, d, h, h' => by
    cases h1 : chB xs a b (d + 1) with
    | true =>
      refine ⟨1, by omega, by omega, h1, ?_, fun i hi => (by
        obtain rfl : i = 0 := by omega
        simpa using h)⟩
      apply Classical.byContradiction
      intro hno
      have := chB_prev h1 (fun x hx e => hno ⟨x, hx, e⟩)
      rw [show d + 1 - 1 = d by omega, h] at this; cases this
    | false =>
      obtain ⟨j, h2, h3, h4, h5, h6⟩ := first_begin m h1 (by rw [show d + 1 + (m : Int) = d + ((m + 1 : Nat) : Int) by omega]; exact h')
      have e : d + 1 + (j : Int) = d + ((j + 1 : Nat) : Int) := by omega
      rw [e] at h4 h5
      refine ⟨j + 1, by omega, by omega, h4, h5, fun i hi => ?_⟩
      cases i with
      | zero => simpa using h
      | succ i => have := h6 i (by omega); rw [show d + 1 + (i : Int) = d + ((i + 1 : Nat) : Int) by omega] at this; exact this
/-- The best day of the reference's loop over the first k treaties: -1, or the least begin behind the day with a chain. -/
def FcRel (xs : List R5) (a b d : Int) (k : Nat) (best : Int) : Prop :=
  (best = -1 ∧ ∀ (j : Nat) (x : R5), j < k → xs[j]? = some x → d < x.c → chB xs a b x.c = false) ∨
  (d < best ∧ best ≤ 4000 ∧ chB xs a b best = true ∧ ∀ (j : Nat) (x : R5), j < k → xs[j]? = some x → d < x.c → chB xs a b x.c = true → best ≤ x.c)
theorem FcRel.zero {xs : List R5} {a b d : Int} : FcRel xs a b d 0 (-1) := .inl ⟨rfl, fun j x hj => by omega⟩
theorem FcRel.skip {xs : List R5} {a b d : Int} {k : Nat} {best : Int} {x : R5} (h : FcRel xs a b d k best) (hx : xs[k]? = some x) (h0 : 0 ≤ d) (hs : ¬ d < x.c ∨ (0 ≤ best ∧ best ≤ x.c) ∨ chB xs a b x.c = false) : FcRel xs a b d (k + 1) best := by
  rcases h with ⟨h1, h2⟩ | ⟨h1, h2, h3, h4⟩
  · refine .inl ⟨h1, fun j y hj hy hd => ?_⟩
    rcases Nat.lt_or_ge j k with hjk | hjk
    · exact h2 j y hjk hy hd
    · obtain rfl : j = k := by omega
      rw [hx] at hy; injection hy with hy; subst hy
      rcases hs with hs | hs | hs
      · exact absurd hd hs
      · omega
      · exact hs
  · refine .inr ⟨h1, h2, h3, fun j y hj hy hd hc => ?_⟩
    rcases Nat.lt_or_ge j k with hjk | hjk
    · exact h4 j y hjk hy hd hc
    · obtain rfl : j = k := by omega
      rw [hx] at hy; injection hy with hy; subst hy
      rcases hs with hs | hs | hs
      · exact absurd hd hs
      · exact hs.2
      · rw [hs] at hc; cases hc
theorem FcRel.take {xs : List R5} {a b d : Int} {k : Nat} {best : Int} {x : R5} (h : FcRel xs a b d k best) (hx : xs[k]? = some x) (hd : d < x.c) (h4000 : x.c ≤ 4000) (hs : best < 0 ∨ x.c < best) (h0 : 0 ≤ d) (hc : chB xs a b x.c = true) : FcRel xs a b d (k + 1) x.c := by
  refine .inr ⟨hd, h4000, hc, fun j y hj hy hdy hcy => ?_⟩
  rcases Nat.lt_or_ge j k with hjk | hjk
  · rcases h with ⟨h1, h2⟩ | ⟨h1, h2, h3, h4⟩
    · rw [h2 j y hjk hy hdy] at hcy; cases hcy
    · have := h4 j y hjk hy hdy hcy; omega
  · obtain rfl : j = k := by omega
    rw [hx] at hy; injection hy with hy; subst hy; exact Int.le_refl _
theorem FcRel.done {xs : List R5} {a b d : Int} {k : Nat} {best : Int} (h : FcRel xs a b d k best) (hk : xs.length ≤ k) (h0 : 0 ≤ d) (h4 : d ≤ 4000) (hno : chB xs a b d = false) :
    fcF xs a b (4001 - d).toNat d = if best < 0 then (0, false) else (best, true) := by
  rcases h with ⟨h1, h2⟩ | ⟨h1, h2, h3, h5⟩
  · rw [if_pos (by omega)]
    have hall : ∀ j : Nat, j < (4001 - d).toNat → chB xs a b (d + j) = false := fun j hj => by
      cases hc : chB xs a b (d + j) with
      | false => rfl
      | true =>
        obtain ⟨i, hi0, hi, hci, ⟨x, hx, hxc⟩, _⟩ := first_begin j hno hc
        obtain ⟨m, hm⟩ := List.mem_iff_getElem?.1 hx
        have := h2 m x (by have := (List.getElem?_eq_some_iff.1 hm).1; omega) hm (by omega)
        rw [hxc, hci] at this; cases this
    rw [fcF_skip (4001 - d).toNat hall (by omega)]
    exact fcF_end (by omega)
  · rw [if_neg (by omega)]
    obtain ⟨m, hm⟩ : ∃ m : Nat, best = d + m := ⟨(best - d).toNat, by omega⟩
    obtain ⟨i, hi0, hi, hci, ⟨x, hx, hxc⟩, hbef⟩ := first_begin m hno (by rw [← hm]; exact h3)
    obtain ⟨q, hq⟩ := List.mem_iff_getElem?.1 hx
    have := h5 q x (by have := (List.getElem?_eq_some_iff.1 hq).1; omega) hq (by omega) (by rw [hxc]; exact hci)
    obtain rfl : i = m := by omega
    rw [fcF_skip i hbef (by omega), ← hm]
    exact fcF_yes h3 h2

noncomputable def fcV (xs : List R5) (a b d : Int) : Int × Bool := if askB xs a b d then fcF xs a b (4001 - d).toNat d else (0, false)
theorem ret_fc {k : IntKind} {a : Int} {b : Bool} {q : Int × Bool} (h : q = (a, b)) : Ending.returned (.tuple #[.int k a, .bool b]) = .returned (.tuple #[.int k q.1, .bool q.2]) := by rw [h]
end Go.Proofs.YtnaehlglpaadhaaDoor
