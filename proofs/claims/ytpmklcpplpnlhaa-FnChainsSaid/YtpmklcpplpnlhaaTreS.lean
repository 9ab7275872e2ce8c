/- Shares of a chain: plain law. -/
import Derived.Test.YtpmklcpplpnlhaaTreE
import Derived.Test.YtpmklcpplpnlhaaList
namespace Go.Proofs.Ytpmklcpplpnlhaa
set_option linter.unusedVariables false
set_option linter.unusedSimpArgs false
open Go.RowKit

/-- Whether the i-th post of a list may stand there: a post, not there before, with a treaty from the post before it. -/
def okC (xs : List R5) (day : Int) (zs : List Int) (i : Nat) : Bool := match zs[i]? with
  | some z => inR z 0 8 && (!hasB (zs.take i) z && (i == 0 || match zs[i - 1]? with | some y => decide (0 ≤ atV xs y z day) | none => false))
  | none => true
def chainB (xs : List R5) (day : Int) (zs : List Int) : Bool := decide (2 ≤ zs.length ∧ zs.length ≤ 9) && (List.range zs.length).all (okC xs day zs)
theorem chainB_no {xs : List R5} {day : Int} {zs : List Int} {i : Nat} (hi : i < zs.length) (h : okC xs day zs i = false) : chainB xs day zs = false := by
  unfold chainB
  rw [Bool.and_eq_false_iff]; right
  rw [List.all_eq_false]; exact ⟨i, by simpa using hi, by simp [h]⟩
theorem chainB_at {xs : List R5} {day : Int} {zs : List Int} (h : chainB xs day zs = true) : (2 ≤ zs.length ∧ zs.length ≤ 9) ∧ ∀ i, i < zs.length → okC xs day zs i = true := by
  simp only [chainB, Bool.and_eq_true, decide_eq_true_eq, List.all_eq_true, List.mem_range] at h
  exact h
theorem okC_post {xs : List R5} {day : Int} {zs : List Int} {i : Nat} {z : Int} (h : okC xs day zs i = true) (hz : zs[i]? = some z) : 0 ≤ z ∧ z ≤ 8 := by
  simp only [okC, hz, Bool.and_eq_true] at h; exact inR_true.1 h.1
theorem okC_new {xs : List R5} {day : Int} {zs : List Int} {i : Nat} {z : Int} (h : okC xs day zs i = true) (hz : zs[i]? = some z) : z ∉ zs.take i := by
  simp only [okC, hz, Bool.and_eq_true, Bool.not_eq_true'] at h; exact hasB_false.1 h.2.1
theorem okC_link {xs : List R5} {day : Int} {zs : List Int} {i : Nat} {y z : Int} (h : okC xs day zs (i + 1) = true) (hz : zs[i + 1]? = some z) (hy : zs[i]? = some y) : 0 ≤ atV xs y z day := by
  simp only [okC, hz, Nat.add_sub_cancel, hy, Bool.and_eq_true] at h; simpa using h.2.2
theorem nodup_prefix {zs : List Int} : ∀ {k : Nat}, (∀ i z, i < k → zs[i]? = some z → z ∉ zs.take i) → (zs.take k).Nodup
  | 0, _ => by simp
  | k + 1, h => by
    have ih := nodup_prefix (k := k) (fun i z hi hz => h i z (by omega) hz)
    cases hk : zs[k]? with
    | none => rw [List.take_add_one, hk]; simpa using ih
    | some z =>
      rw [List.take_add_one, hk, List.nodup_append]
      refine ⟨ih, by simp, fun x hx y hy e => ?_⟩
      simp at hy; subst hy; subst e
      exact h k x (by omega) hk hx
/-- Posts that are all different are nine at most. -/
theorem posts_len9 {zs : List Int} {k : Nat} (h1 : ∀ i z, i < k → zs[i]? = some z → 0 ≤ z ∧ z ≤ 8) (h2 : ∀ i z, i < k → zs[i]? = some z → z ∉ zs.take i) (hk : k ≤ zs.length) : k ≤ 9 := by
  have := nodup_len (nodup_prefix h2) (fun x hx => by
    obtain ⟨i, hi⟩ := List.mem_iff_getElem?.1 hx
    rw [List.getElem?_take] at hi
    split at hi
    · rename_i hik; exact h1 i x hik hi
    · cases hi)
  rw [List.length_take] at this; omega
/-- The share of a treaty between two posts. -/
def shareV (xs : List R5) (day y z : Int) : Int := match xs[(atV xs y z day).toNat]? with | some x => x.e | none => 0
theorem shareV_at {xs : List R5} {day y z : Int} {k : Nat} {x : R5} (h : atV xs y z day = k) (hx : xs[k]? = some x) : shareV xs day y z = x.e := by simp [shareV, h, hx]
theorem at_hit {xs : List R5} {a b day : Int} (h : 0 ≤ atV xs a b day) : ∃ (k : Nat) (x : R5), atV xs a b day = k ∧ xs[k]? = some x := by
  rcases atV_cases xs a b day with ⟨h1, _⟩ | ⟨k, x, h1, h2, _⟩
  · omega
  · exact ⟨k, x, h1, h2⟩
/-- What the posts of a list have in the end. -/
def shL (xs : List R5) (day : Int) : List Int → Int → List Int
  | [], _ => []
  | [_], left => [left]
  | y :: z :: r, left => left * shareV xs day y z / 100 :: shL xs day (z :: r) (left - left * shareV xs day y z / 100)
theorem length_shL (xs : List R5) (day : Int) : ∀ (zs : List Int) (left : Int), (shL xs day zs left).length = zs.length
  | [], _ => rfl
  | [_], _ => rfl
  | y :: z :: r, left => by rw [shL, List.length_cons, length_shL xs day (z :: r)]; rfl
def shB (xs : List R5) (zs : List Int) (day p : Int) : Bool := trL xs && (inR day 0 4000 && (inR p 0 99999 && chainB xs day zs))
def shV (xs : List R5) (zs : List Int) (day p : Int) : List Int := if shB xs zs day p then shL xs day zs p else []
theorem sh_len (xs : List R5) (zs : List Int) (day p : Int) : (shV xs zs day p).length ≤ 9 := by
  unfold shV
  split
  · rename_i h
    simp only [shB, Bool.and_eq_true] at h
    rw [length_shL]; exact (chainB_at h.2.2.2).1.2
  · simp
theorem keep_bd {left e : Int} (h : 0 ≤ left ∧ left ≤ 99999) (he : 1 ≤ e ∧ e ≤ 99) : (0 ≤ left * e ∧ left * e ≤ 9999900) ∧ 0 ≤ left * e / 100 ∧ left * e / 100 ≤ left := by
  have a1 : 0 ≤ left * e := Int.mul_nonneg (by omega) (by omega)
  have a2 : left * e ≤ left * 99 := Int.mul_le_mul_of_nonneg_left (by omega) (by omega)
  omega
/-- In the midst of the loop: k posts have their shares out, the rest is left for the others. -/
def ShRel (xs : List R5) (day : Int) (zs : List Int) (p : Int) (k : Nat) (out : List Int) (left : Int) : Prop := shL xs day zs p = out ++ shL xs day (zs.drop k) left ∧ out.length = k ∧ 0 ≤ left ∧ left ≤ 99999
theorem ShRel.zero {xs : List R5} {day : Int} {zs : List Int} {p : Int} (hp : 0 ≤ p ∧ p ≤ 99999) : ShRel xs day zs p 0 [] p := ⟨rfl, rfl, hp⟩
theorem drop_two {zs : List Int} {k : Nat} {y z : Int} (hy : zs[k]? = some y) (hz : zs[k + 1]? = some z) : zs.drop k = y :: z :: zs.drop (k + 2) ∧ zs.drop (k + 1) = z :: zs.drop (k + 2) := by
  have h1 := (List.getElem?_eq_some_iff.1 hy)
  have h2 := (List.getElem?_eq_some_iff.1 hz)
  obtain ⟨l1, e1⟩ := h1
  obtain ⟨l2, e2⟩ := h2
  have d2 := List.drop_eq_getElem_cons l2
  rw [e2] at d2
  exact ⟨by rw [List.drop_eq_getElem_cons l1, e1, d2], d2⟩
theorem ShRel.step {xs : List R5} {day : Int} {zs : List Int} {p : Int} {k : Nat} {out : List Int} {left : Int} {y z e : Int} (h : ShRel xs day zs p k out left) (hy : zs[k]? = some y) (hz : zs[k + 1]? = some z) (he : shareV xs day y z = e) (he1 : 1 ≤ e ∧ e ≤ 99) :
    ShRel xs day zs p (k + 1) (out ++ [left * e / 100]) (left - left * e / 100) := by
  obtain ⟨h1, h2, h3, h4⟩ := h
  obtain ⟨d1, d2⟩ := drop_two hy hz
  have := keep_bd ⟨h3, h4⟩ he1
  refine ⟨?_, by simp [h2], by omega, by omega⟩
  rw [h1, d1, d2, shL, he]; simp
theorem ShRel.last {xs : List R5} {day : Int} {zs : List Int} {p : Int} {k : Nat} {out : List Int} {left : Int} (h : ShRel xs day zs p k out left) (hk : k + 1 = zs.length) : shL xs day zs p = out ++ [left] := by
  obtain ⟨h1, _⟩ := h
  have hl : k < zs.length := by omega
  rw [h1, List.drop_eq_getElem_cons hl, List.drop_eq_nil_of_le (by omega), shL]
end Go.Proofs.Ytpmklcpplpnlhaa
