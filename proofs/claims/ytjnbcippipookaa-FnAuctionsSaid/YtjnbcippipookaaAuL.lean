/- What the law on auctions asks, in plain Lean: steps leave auctions, bids are high enough, the turnover does not fall; a run of steps. -/
import Derived.Test.YtjnbcippipookaaAuP
import Derived.Test.YtjnbcippipookaaOpenV4
namespace Go.Proofs.Ytjnbcippipookaa
set_option linter.unusedVariables false
set_option linter.unusedSimpArgs false
open Go.RowKit

theorem sumD_cons (p : R5 → Bool) (x : R5) (xs : List R5) : sumD p (x :: xs) = (if p x = true then x.d else 0) + sumD p xs := by
  unfold sumD
  cases h : p x <;> simp [List.filter_cons, h]
theorem sumD_app (p : R5 → Bool) (xs ys : List R5) : sumD p (xs ++ ys) = sumD p xs + sumD p ys := by simp [sumD]
theorem sumD_set (p : R5 → Bool) : ∀ {xs : List R5} {j : Nat} {x : R5} (y : R5), xs[j]? = some x → sumD p (xs.set j y) + (if p x = true then x.d else 0) = sumD p xs + (if p y = true then y.d else 0)
  | [], j, x, y, h => by simp at h
  | a :: xs, 0, x, y, h => by
    simp at h; subst h
    rw [List.set_cons_zero, sumD_cons, sumD_cons]; omega
  | a :: xs, j + 1, x, y, h => by
    rw [List.set_cons_succ, sumD_cons, sumD_cons]
    have := sumD_set p (xs := xs) (j := j) y (by simpa using h)
    omega
theorem sumD_erase (p : R5 → Bool) : ∀ {xs : List R5} {j : Nat} {x : R5}, xs[j]? = some x → sumD p (xs.eraseIdx j) + (if p x = true then x.d else 0) = sumD p xs
  | [], j, x, h => by simp at h
  | a :: xs, 0, x, h => by
    simp at h; subst h
    rw [List.eraseIdx_cons_zero, sumD_cons]; omega
  | a :: xs, j + 1, x, h => by
    rw [List.eraseIdx_cons_succ, sumD_cons, sumD_cons]
    have := sumD_erase p (xs := xs) (j := j) (by simpa using h)
    omega
theorem sold_if (x : R5) : (if pSold 0 x = true then x.d else 0) = if x.c = 2 then x.d else 0 := by simp [pSold]
theorem stepB_kinds {k i b v : Int} (h : stepB k i b v = true) : k = 1 ∨ k = 2 ∨ k = 3 ∨ k = 4 ∨ k = 5 ∨ k = 6 := by
  unfold stepB at h
  split at h
  · omega
  split at h
  · omega
  split at h
  · omega
  split at h
  · omega
  · cases h
/-- A step leaves an auction; a bid is no less than the least one; the turnover does not fall, and stands still but for a knock. -/
theorem step_fact {xs l : List R5} {k i b v : Int} (h : auc xs = true) (hs : stepB k i b v = true) (ho : stO xs k i b v = some l) :
    auc l = true ∧ (k = 4 → lbOK xs = true ∧ lbV xs ≤ v) ∧ sumD (pSold 0) xs ≤ sumD (pSold 0) l ∧ (k ≠ 5 → sumD (pSold 0) l = sumD (pSold 0) xs) := by
  rcases stepB_kinds hs with rfl | rfl | rfl | rfl | rfl | rfl
  · rw [stO_1] at ho
    split at ho
    · rename_i hc
      injection ho with ho; subst ho
      have e : sumD (pSold 0) (puA xs i v) = sumD (pSold 0) xs := by
        unfold puA
        rw [sumD_app, sumD_cons, sold_if]
        conv => rhs; rw [← List.take_append_drop (posA xs i) xs, sumD_app]
        simp
      exact ⟨hc.2, fun hk => by omega, by omega, fun _ => e⟩
    · cases ho
  · rcases find_cases h i with ⟨e, -⟩ | ⟨j, x, e, -, -, -, hx, -⟩
    · rw [stO_236n b v (by omega) e] at ho; cases ho
    · rw [stO_2 b v e hx] at ho
      split at ho
      · rename_i hc
        injection ho with ho; subst ho
        have := sumD_erase (pSold 0) hx
        rw [sold_if, if_neg (by omega)] at this
        exact ⟨auc_erase h, fun hk => by omega, by omega, fun _ => by omega⟩
      · cases ho
  · rcases find_cases h i with ⟨e, -⟩ | ⟨j, x, e, -, -, -, hx, -⟩
    · rw [stO_236n b v (by omega) e] at ho; cases ho
    · rw [stO_3 b v e hx] at ho
      split at ho
      · rename_i hc
        injection ho with ho; subst ho
        have := sumD_set (pSold 0) { x with c := 1 } hx
        rw [sold_if, sold_if, if_neg (by omega), if_neg (by simp)] at this
        exact ⟨by rw [open_auc h hx hc.1, decide_eq_true hc.2], fun hk => by omega, by omega, fun _ => by omega⟩
      · cases ho
  · rcases idxV_cases isOpen xs with ⟨e, -⟩ | ⟨j, x, e, hx, hp, hb⟩
    · rw [stO_45n i b v (by omega) e] at ho; cases ho
    · have hc : x.c = 1 := by simpa [isOpen] using hp
      rw [stO_4 i b v e hx] at ho
      split at ho
      · rename_i hl
        injection ho with ho; subst ho
        have hbd : (1 ≤ b ∧ b ≤ 999) ∧ (1 ≤ v ∧ v ≤ 99999) := by
          rw [stepB, if_neg (by decide), if_pos rfl] at hs
          simp only [Bool.and_eq_true] at hs
          exact ⟨inR_true.1 hs.2.1, inR_true.1 hs.2.2⟩
        have := sumD_set (pSold 0) { x with d := v, e := b } hx
        rw [sold_if, sold_if, if_neg (by omega), if_neg (by simp [hc])] at this
        have hf := find_of_idx hb hx hp
        have hok : lbOK xs = true := by simp only [lbOK, hf, h, Bool.true_and, decide_eq_true_eq]; omega
        exact ⟨bid_auc h hx hc hbd.1 hbd.2, fun _ => ⟨hok, by rw [lbV, if_pos hok]; simp only [hf]; exact hl.1⟩, by omega, fun _ => by omega⟩
      · cases ho
  · rcases open_cases h with e | ⟨j, x, e, -, hx, hc, hl⟩
    · rw [stO_45n i b v (by omega) e] at ho; cases ho
    · rw [stO_5 i b v e hx] at ho
      injection ho with ho; subst ho
      have := sumD_set (pSold 0) { x with c := knC x } hx
      rw [sold_if, sold_if, if_neg (by omega)] at this
      have hd := (lot_bd hl).2.2.1
      refine ⟨kno_auc h hx, fun hk => by omega, ?_, fun hk => by omega⟩
      dsimp only at this
      split at this <;> omega
  · rcases find_cases h i with ⟨e, -⟩ | ⟨j, x, e, -, -, -, hx, -⟩
    · rw [stO_236n b v (by omega) e] at ho; cases ho
    · rw [stO_6 b v e hx] at ho
      split at ho
      · rename_i hc
        injection ho with ho; subst ho
        have := sumD_set (pSold 0) ⟨x.a, x.b, 0, 0, 0⟩ hx
        rw [sold_if, sold_if, if_neg (by omega), if_neg (by simp)] at this
        exact ⟨again_auc h hx, fun hk => by omega, by omega, fun _ => by omega⟩
      · cases ho
theorem sold_high {xs : List R5} (h : auc xs = true) {j : Nat} {x : R5} (hx : xs[j]? = some x) (hc : x.c = 2) : x.b ≤ x.d := by
  have := auc_at h hx
  simp only [lotB, decide_eq_true_eq] at this
  omega

/-! ### A run of steps -/
def runS (xs : List R5) (s : R4) : List R5 := if stepB s.a s.b s.c s.d = true then (stO xs s.a s.b s.c s.d).getD xs else xs
def runO (xs : List R5) (s : R4) : Bool := stepB s.a s.b s.c s.d && stB xs s.a s.b s.c s.d
/-- The auction behind some steps; how many were made. -/
def runL (xs : List R5) (ss : List R4) : List R5 := ss.foldl runS xs
def runN : List R5 → List R4 → Nat
  | _, [] => 0
  | xs, s :: r => (runO xs s).toNat + runN (runS xs s) r
theorem runS_auc {xs : List R5} (h : auc xs = true) (s : R4) : auc (runS xs s) = true := by
  unfold runS
  split
  · rename_i hs
    cases ho : stO xs s.a s.b s.c s.d with
    | none => exact h
    | some l => exact (step_fact h hs ho).1
  · exact h
theorem runL_auc : ∀ {ss : List R4} {xs : List R5}, auc xs = true → auc (runL xs ss) = true
  | [], _, h => h
  | s :: r, xs, h => runL_auc (ss := r) (runS_auc h s)
theorem runL_snoc (xs : List R5) (ss : List R4) (s : R4) : runL xs (ss ++ [s]) = runS (runL xs ss) s := by simp [runL]
theorem runN_snoc : ∀ (ss : List R4) (xs : List R5) (s : R4), runN xs (ss ++ [s]) = runN xs ss + (runO (runL xs ss) s).toNat
  | [], xs, s => by simp [runN, runL]
  | a :: r, xs, s => by
    rw [List.cons_append, runN, runN, runN_snoc r]
    simp only [runL, List.foldl_cons]
    omega
theorem runN_le : ∀ (ss : List R4) (xs : List R5), runN xs ss ≤ ss.length
  | [], xs => by simp [runN]
  | a :: r, xs => by have := runN_le r (runS xs a); have := Bool.toNat_le (runO xs a); rw [runN, List.length_cons]; omega
theorem take_snoc {α : Type} {ss : List α} {j : Nat} {s : α} (h : ss[j]? = some s) : ss.take (j + 1) = ss.take j ++ [s] := by
  rw [List.take_add_one, h]; rfl
theorem runO_yes {xs : List R5} {s : R4} (h : runO xs s = true) : stepB s.a s.b s.c s.d = true ∧ stB xs s.a s.b s.c s.d = true ∧ runS xs s = stL xs s.a s.b s.c s.d := by
  simp only [runO, Bool.and_eq_true] at h
  refine ⟨h.1, h.2, ?_⟩
  rw [runS, if_pos h.1, stL]
  cases ho : stO xs s.a s.b s.c s.d with
  | none => rw [stB, ho] at h; simp at h
  | some l => rfl
theorem runO_no {xs : List R5} {s : R4} (h : runO xs s = false) : runS xs s = xs := by
  rw [runS]
  split
  · rename_i hs
    rw [runO, hs, Bool.true_and, stB] at h
    cases ho : stO xs s.a s.b s.c s.d with
    | none => rfl
    | some l => rw [ho] at h; simp at h
  · rfl
theorem runL_len {xs : List R5} (h : auc xs = true) (ss : List R4) : (runL xs ss).length ≤ 8 := auc_len (runL_auc h)
def runB (xs : List R5) (ss : List R4) : Bool := auc xs && decide ((ss.length : Int) ≤ 40)
def runV (xs : List R5) (ss : List R4) : List R5 := if runB xs ss = true then runL xs ss else []
def runK (xs : List R5) (ss : List R4) : Int := if runB xs ss = true then runN xs ss else 0
theorem runV_len (xs : List R5) (ss : List R4) : (runV xs ss).length ≤ 8 := by
  unfold runV
  split
  · rename_i h
    simp only [runB, Bool.and_eq_true] at h
    exact runL_len h.1 ss
  · simp
theorem run_no {xs : List R5} {ss : List R4} (h : runB xs ss = false) : runV xs ss = [] ∧ runK xs ss = 0 := by simp [runV, runK, h]
theorem run_yes {xs : List R5} {ss : List R4} (h : runB xs ss = true) : runV xs ss = runL xs ss ∧ runK xs ss = runN xs ss := by simp [runV, runK, h]
theorem run_next {xs : List R5} {ss : List R4} {j : Nat} {s : R4} (h : ss[j]? = some s) : runL xs (ss.take (j + 1)) = runS (runL xs (ss.take j)) s ∧ runN xs (ss.take (j + 1)) = runN xs (ss.take j) + (runO (runL xs (ss.take j)) s).toNat := by
  rw [take_snoc h, runL_snoc, runN_snoc]; exact ⟨rfl, rfl⟩
theorem runN_take (xs : List R5) (ss : List R4) (j : Nat) : runN xs (ss.take j) ≤ j := Nat.le_trans (runN_le _ _) (List.length_take_le _ _)
end Go.Proofs.Ytjnbcippipookaa
