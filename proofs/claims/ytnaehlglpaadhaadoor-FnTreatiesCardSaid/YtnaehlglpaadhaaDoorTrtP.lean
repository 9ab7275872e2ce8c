/- What the law on treaties asks, in plain Lean: partners have a treaty in force, an ended treaty leaves a valid list, a signed one is in force on its first day. -/
import Derived.Test.YtnaehlglpaadhaaDoorTreO
import Derived.Test.YtnaehlglpaadhaaDoorTreG
import Derived.Test.YtnaehlglpaadhaaDoorTreF
namespace Go.Proofs.YtnaehlglpaadhaaDoor
set_option linter.unusedVariables false
set_option linter.unusedSimpArgs false
open Go.RowKit

theorem near_fact {xs : List R5} {u day v : Int} {i : Nat} (h : (paV xs u day)[i]? = some v) : ifB xs u v day = true ∧ ifB xs v u day = true ∧ ifV xs v u day = ifV xs u v day := by
  unfold paV at h
  split at h
  · rename_i hp
    simp only [paB, Bool.and_eq_true] at hp
    obtain ⟨hv, hu, hd⟩ := hp
    obtain ⟨ha, h0, h8⟩ := nbL_get h
    have hne : u ≠ v := by
      rintro rfl
      rw [adjT_irr hv] at ha; cases ha
    have hat : 0 ≤ atV xs u v day := by simpa [adjT] using ha
    have e1 : ifB xs u v day = true := by
      simp only [ifB, askB, Bool.and_eq_true, decide_eq_true_eq]
      exact ⟨⟨hv, hu, inR_true.2 ⟨h0, h8⟩, hne, hd⟩, hat⟩
    have e2 : ifB xs v u day = true := by
      simp only [ifB, askB, Bool.and_eq_true, decide_eq_true_eq]
      exact ⟨⟨hv, inR_true.2 ⟨h0, h8⟩, hu, fun e => hne e.symm, hd⟩, by rw [atV_sym]; exact hat⟩
    exact ⟨e1, e2, by rw [ifV, ifV, if_pos e1, if_pos e2, atV_sym]⟩
  · simp at h
theorem if_bd {xs : List R5} {a b day : Int} : 0 ≤ ifV xs a b day ∧ ifV xs a b day ≤ xs.length := by
  unfold ifV
  split
  · rename_i h
    simp only [ifB, Bool.and_eq_true, decide_eq_true_eq] at h
    have := atV_bd (xs := xs) rfl a b day
    omega
  · omega
theorem end_tr {xs : List R5} {i day : Int} (h : endB xs i day = true) : trL (endV xs i day) = true := by
  have h' := h
  simp only [endB, Bool.and_eq_true, decide_eq_true_eq] at h'
  obtain ⟨hv, h0, hm⟩ := h'
  cases hx : xs[i.toNat]? with
  | none => rw [hx] at hm; cases hm
  | some x =>
    rw [hx] at hm
    have hd := inR_true.1 hm
    have hV : endV xs i day = xs.set i.toNat { x with d := day } := by rw [endV, if_pos h, hx]
    rw [hV]
    have hl := trL_len hv
    have ha : allG trB trBef xs = true := by simp only [trL, Bool.and_eq_true] at hv; exact hv.1
    have hxi := (List.getElem?_eq_some_iff.1 hx).1
    have hxb := trB_bd (trL_at hv hx)
    have key : ∀ (j : Nat) (y : R5), (xs.set i.toNat { x with d := day })[j]? = some y → ∃ z, xs[j]? = some z ∧ z.a = y.a ∧ z.b = y.b ∧ z.c = y.c ∧ y.d ≤ z.d ∧ trB y = true := fun j y hy => by
      by_cases e : i.toNat = j
      · subst e
        rw [List.getElem?_set_self hxi] at hy; injection hy with hy; subst hy
        exact ⟨x, hx, rfl, rfl, rfl, hd.2, by simp only [trB, decide_eq_true_eq]; omega⟩
      · rw [List.getElem?_set_ne e] at hy
        exact ⟨y, hy, rfl, rfl, rfl, Int.le_refl _, trL_at hv hy⟩
    have hall : allG trB trBef (xs.set i.toNat { x with d := day }) = true := by
      refine allG_end fun j hj => ?_
      have hy := List.getElem?_eq_getElem hj
      obtain ⟨z, hz, z1, z2, z3, z4, z5⟩ := key j _ hy
      cases j with
      | zero => exact okG_first hy z5 rfl
      | succ j =>
        have hy2 : (xs.set i.toNat { x with d := day })[j]? = some ((xs.set i.toNat { x with d := day })[j]'(by omega)) := List.getElem?_eq_getElem (by omega)
        obtain ⟨u, hu, u1, u2, u3, u4, u5⟩ := key j _ hy2
        rw [okG_next hy z5 (by omega) (y := (xs.set i.toNat { x with d := day })[j]'(by omega)) (by rw [Nat.add_sub_cancel]; exact hy2)]
        have hb := allG_ord ha hz hu
        generalize (xs.set i.toNat { x with d := day })[j]'(by omega) = p at *
        generalize (xs.set i.toNat { x with d := day })[j + 1]'hj = q at *
        simp only [trBef, trLess, Bool.and_eq_true, decide_eq_true_eq, Bool.not_eq_true', Bool.and_eq_false_iff, decide_eq_false_iff_not] at hb ⊢
        rw [z1, z2, z3, u1, u2, u3] at hb
        refine ⟨hb.1, ?_⟩
        rcases hb.2 with h | h | h
        · exact .inl h
        · exact .inr (.inl h)
        · exact .inr (.inr (by omega))
    simp only [trL, hall, Bool.true_and, decide_eq_true_eq, List.length_set]
    exact hl
theorem sign_force {xs : List R5} {x : R5} (h : sgB xs x = true) : ifB (sgV xs x) x.b x.a x.c = true := by
  have h' := h
  simp only [sgB, Bool.and_eq_true] at h'
  obtain ⟨hv, hx, hs⟩ := h'
  have hb := trB_bd hx
  rw [sgV, if_pos h]
  have hm : x ∈ sgL xs x := by unfold sgL; simp
  have hh : hitB x.b x.a x.c x = true := decide_eq_true ⟨.inr ⟨rfl, rfl⟩, Int.le_refl _, by omega⟩
  have hat : 0 ≤ atV (sgL xs x) x.b x.a x.c := by
    rcases atV_cases (sgL xs x) x.b x.a x.c with ⟨-, hno⟩ | ⟨k, y, hk, -, -⟩
    · rw [hno x hm] at hh; cases hh
    · omega
  simp only [ifB, askB, Bool.and_eq_true, decide_eq_true_eq]
  exact ⟨⟨hs, inR_true.2 hb.2.1, inR_true.2 hb.1, by omega, inR_true.2 hb.2.2.2.1⟩, hat⟩
end Go.Proofs.YtnaehlglpaadhaaDoor
