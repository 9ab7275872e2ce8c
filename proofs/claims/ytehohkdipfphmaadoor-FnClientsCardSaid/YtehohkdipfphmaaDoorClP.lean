/- Approvals: what the law on clients asks, in plain Lean: an item is unsold exactly if no client has bought it; clients keep no more than they were sent; overdue approvals have items that are out. -/
import Derived.Test.YtehohkdipfphmaaDoorApQ
import Derived.Test.YtehohkdipfphmaaDoorAppR
import Derived.Test.YtehohkdipfphmaaDoorAppZU
namespace Go.Proofs.YtehohkdipfphmaaDoor
set_option linter.unusedVariables false
set_option linter.unusedSimpArgs false
open Go.RowKit

theorem good_idsC {xs : List AR} (h : goodA xs = true) {i j : Nat} {x y : AR} (hij : i < j) (hx : xs[i]? = some x) (hy : xs[j]? = some y) : x.id < y.id := by
  have step : ∀ (j : Nat) (a b : AR), xs[j]? = some a → xs[j + 1]? = some b → a.id < b.id := fun j a b ha hb => by
    have hok := (goodA_yes h).1 (j + 1)
    cases hbf : befA a b with
    | true => simp only [befA, Bool.and_eq_true, decide_eq_true_eq] at hbf; exact hbf.1
    | false => rw [okAt_no2 hb (by simpa using ha) (by omega) hbf] at hok; cases hok
  have key : ∀ (d i : Nat) (a b : AR), xs[i]? = some a → xs[i + (d + 1)]? = some b → a.id < b.id := by
    intro d
    induction d with
    | zero => intro i a b ha hb; exact step i a b ha hb
    | succ d ih =>
      intro i a b ha hb
      have hl := (List.getElem?_eq_some_iff.1 hb).1
      obtain ⟨c, hc⟩ : ∃ c, xs[i + (d + 1)]? = some c := ⟨xs[i + (d + 1)]'(by omega), List.getElem?_eq_getElem _⟩
      have h3 := ih i a c ha hc
      have h4 := step (i + (d + 1)) c b hc (by rw [show i + (d + 1) + 1 = i + (d + 1 + 1) by omega]; exact hb)
      omega
  exact key (j - i - 1) i x y hx (by rw [show i + (j - i - 1 + 1) = j by omega]; exact hy)

theorem by_gd {xs : List AR} {cl : ByteArray} {z : Int} {i : Nat} (h : (byV xs cl)[i]? = some z) : hasB (unV xs) z = false := by
  have hm := List.mem_of_getElem? h
  unfold byV at hm
  split at hm
  · rw [putAll_mem] at hm
    obtain ⟨j, y, -, hy, hz⟩ := catP_mem hm
    unfold byF at hz
    split at hz
    · rw [hasB_false]
      intro hu
      unfold unV at hu
      split at hu
      · rw [putAll_mem] at hu
        obtain ⟨j', y', -, hy', hz'⟩ := catP_mem hu
        unfold unF at hz'
        have := (List.mem_filter.1 hz').2
        simp only [unQ, Bool.not_eq_true', List.any_eq_false] at this
        exact this y (List.mem_of_getElem? hy) (hasB_true.2 hz)
      · simp at hu
    · simp at hz
  · simp at hm
/-- An item of a good list is unsold exactly if nobody has kept it. -/
theorem un_iff {xs : List AR} (h : unB xs = true) {x : AR} {z : Int} (hx : x ∈ xs) (hz : z ∈ x.items) : hasB (unV xs) z = !unQ xs z := by
  rw [unV, if_pos h]
  cases hq : unQ xs z with
  | false =>
    rw [Bool.not_false, hasB_true, putAll_mem]
    exact catP_in hx (by rw [unF, List.mem_filter]; exact ⟨hz, by rw [hq]; rfl⟩)
  | true =>
    rw [Bool.not_true, hasB_false, putAll_mem]
    intro hc
    obtain ⟨j, y, -, -, hy⟩ := catP_mem hc
    have := (List.mem_filter.1 hy).2
    rw [hq] at this
    cases this
theorem kept_le {x : AR} (h : oneA x = true) : x.kept.length ≤ x.items.length := by
  have h1 := ss_nodup (one_kept h).1
  have : ∀ (R L : List Int), R.Nodup → (∀ x ∈ R, x ∈ L) → R.length ≤ L.length := by
    intro R
    induction R with
    | nil => intro L _ _; simp
    | cons a r ih =>
      intro L hn hs
      have ha := hs a (List.mem_cons_self ..)
      rw [List.nodup_cons] at hn
      have := ih (L.erase a) hn.2 (fun y hy => (List.mem_erase_of_ne (by rintro rfl; exact hn.1 hy)).2 (hs y (List.mem_cons_of_mem _ hy)))
      rw [List.length_erase_of_mem ha] at this
      have : 0 < L.length := List.length_pos_of_mem ha
      simp; omega
  exact this _ _ h1 (fun z hz => hasB_true.1 (kept_sub h (hasB_true.2 hz)))
theorem ksP_le {xs : List AR} (hg : ∀ x ∈ xs, oneA x = true) (cl : ByteArray) : ∀ k : Nat, (ksP xs cl k).1 ≤ (ksP xs cl k).2
  | 0 => by simp [ksP]
  | k + 1 => by
    have ih := ksP_le hg cl k
    cases hx : xs[k]? with
    | none =>
      have e : ksP xs cl (k + 1) = ksP xs cl k := by simp [ksP, List.take_add_one, hx]
      rw [e]; exact ih
    | some x =>
      rw [ksP_step hx]
      unfold ksStep
      have := kept_le (hg x (List.mem_of_getElem? hx))
      split
      · simp only; omega
      · exact ih
theorem ks_le {xs : List AR} {cl : ByteArray} (h : ksB xs cl = true) : ksN xs cl ≤ ksD xs cl := by
  rw [ksN, ksD, if_pos h, if_pos h]
  simp only [ksB, Bool.and_eq_true] at h
  have := Nat.div_le_div_right (c := Nat.gcd (ksP xs cl xs.length).1 (ksP xs cl xs.length).2) (ksP_le (goodA_ones h.1) cl xs.length)
  omega
theorem od_fact {xs : List AR} {day most : Int} (h : odB xs day most = true) {i : Nat} {x : AR} (hx : xs[i]? = some x) (hi : hasB (odV xs day most) x.id = true) :
    ioB xs day = true ∧ ∃ z, x.items[0]? = some z ∧ hasB (ioV xs day) z = true := by
  have h' := h
  simp only [odB, Bool.and_eq_true] at h'
  obtain ⟨hg, hd, -⟩ := h'
  have hio : ioB xs day = true := by simp only [ioB, hg, hd, Bool.and_self]
  refine ⟨hio, ?_⟩
  rw [odV, if_pos h, hasB_true] at hi
  unfold odP at hi
  rw [List.take_length, List.mem_flatMap] at hi
  obtain ⟨y, hy, hyi⟩ := hi
  unfold odStep at hyi
  split at hyi
  · rename_i ho
    simp at hyi
    obtain ⟨j, hj⟩ := List.mem_iff_getElem?.1 hy
    have hij : i = j := by
      rcases Nat.lt_trichotomy i j with hlt | heq | hlt
      · have := good_idsC hg hlt hx hj; omega
      · exact heq
      · have := good_idsC hg hlt hj hx; omega
    subst hij
    rw [hx] at hj; injection hj with hj; subst hj
    have hl := one_len (goodA_ones hg x hy)
    refine ⟨x.items[0]'(by omega), List.getElem?_eq_getElem _, ?_⟩
    rw [ioV, if_pos hio, hasB_true, putAll_mem]
    exact catP_in hy (by rw [ioF, ioP, if_pos ho.1]; exact List.getElem_mem _)
  · simp at hyi
end Go.Proofs.YtehohkdipfphmaaDoor
