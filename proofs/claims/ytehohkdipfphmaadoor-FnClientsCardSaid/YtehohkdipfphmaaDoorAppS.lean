/- Approvals: the numbers that a list holds. -/
import Derived.Test.YtehohkdipfphmaaDoorAppE
namespace Go.Proofs.YtehohkdipfphmaaDoor
set_option linter.unusedVariables false
set_option linter.unusedSimpArgs false
open Go.RowKit

/-- What is left of a size behind one approval. -/
def szA1 (l : Int) (x : AR) : Int := szR (szR (szR l x.client.size) x.items.length) x.kept.length
theorem szR_neg1 (n : Nat) : szR (-1) n = -1 := by simp [szR]; omega
theorem szR_cases (l : Int) (n : Nat) (h : -1 ≤ l) : (l < n ∧ szR l n = -1) ∨ ((n : Int) ≤ l ∧ szR l n = l - n) := by
  unfold szR
  by_cases h1 : l < n
  · exact .inl ⟨h1, if_pos h1⟩
  · exact .inr ⟨by omega, if_neg h1⟩
theorem szA1_pos {l : Int} {x : AR} (hl : -1 ≤ l) (h : 0 ≤ szA1 l x) : szA1 l x = l - x.client.size - x.items.length - x.kept.length ∧ (x.client.size + x.items.length + x.kept.length : Int) ≤ l := by
  unfold szA1 at h ⊢
  rcases szR_cases l x.client.size hl with ⟨a1, e1⟩ | ⟨a1, e1⟩
  · rw [e1, szR_neg1, szR_neg1] at h; omega
  · rw [e1] at h ⊢
    rcases szR_cases (l - x.client.size) x.items.length (by omega) with ⟨a2, e2⟩ | ⟨a2, e2⟩
    · rw [e2, szR_neg1] at h; omega
    · rw [e2] at h ⊢
      rcases szR_cases (l - x.client.size - x.items.length) x.kept.length (by omega) with ⟨a3, e3⟩ | ⟨a3, e3⟩
      · rw [e3] at h; omega
      · rw [e3]; omega
theorem szA1_cases {l : Int} {x : AR} (hl : -1 ≤ l) : szA1 l x = -1 ∨ 0 ≤ szA1 l x := by
  unfold szA1
  rcases szR_cases l x.client.size hl with ⟨a1, e1⟩ | ⟨a1, e1⟩
  · rw [e1, szR_neg1, szR_neg1]; exact .inl rfl
  · rw [e1]
    rcases szR_cases (l - x.client.size) x.items.length (by omega) with ⟨a2, e2⟩ | ⟨a2, e2⟩
    · rw [e2, szR_neg1]; exact .inl rfl
    · rw [e2]
      rcases szR_cases (l - x.client.size - x.items.length) x.kept.length (by omega) with ⟨a3, e3⟩ | ⟨a3, e3⟩
      · rw [e3]; exact .inl rfl
      · rw [e3]; right; omega
def szLA : Int → List AR → Int
  | l, [] => l
  | l, x :: xs => if szA1 l x < 0 then -1 else szLA (szA1 l x) xs
def szAV (l : Int) (xs : List AR) : Int := if l < xs.length then -1 else szLA (l - xs.length) xs
/-- How many numbers and texts the marks take. -/
def szA : List AR → Nat
  | [] => 0
  | x :: xs => 4 + x.items.length + x.kept.length + szA xs
theorem szLA_drop {xs : List AR} {k : Nat} {x : AR} (l : Int) (hk : xs[k]? = some x) : szLA l (xs.drop k) = if szA1 l x < 0 then -1 else szLA (szA1 l x) (xs.drop (k + 1)) := by
  rw [drop_cons hk]; rfl
theorem szLA_neg : ∀ (xs : List AR) (l : Int), 0 ≤ l → szLA l xs < 0 → szLA l xs = -1
  | [], l, h0, h => by simp [szLA] at h; omega
  | x :: xs, l, h0, h => by
    simp only [szLA] at h ⊢
    split
    · rfl
    · rename_i hh; rw [if_neg hh] at h; exact szLA_neg xs _ (by omega) h
theorem szAV_neg {xs : List AR} (h : szAV 1048576 xs < 0) : szAV 1048576 xs = -1 := by
  unfold szAV at h ⊢
  split
  · rfl
  · rename_i hh; rw [if_neg hh] at h; exact szLA_neg xs _ (by omega) h
theorem szLA_le : ∀ (xs : List AR) (l : Int), 0 ≤ l → szLA l xs ≤ l
  | [], l, h => by simp [szLA]
  | x :: xs, l, h => by
    simp only [szLA]
    split
    · omega
    · rename_i hh
      have h1 := szA1_pos (x := x) (l := l) (by omega) (by omega)
      have := szLA_le xs (szA1 l x) (by omega); omega
theorem szAV_le (xs : List AR) (l : Int) (h : 0 ≤ l) : szAV l xs ≤ l := by
  unfold szAV; split
  · omega
  · have := szLA_le xs (l - xs.length) (by omega); omega
theorem szLA_bd : ∀ (xs : List AR) (l : Int), 0 ≤ l → 0 ≤ szLA l xs → (szA xs : Int) - 4 * xs.length ≤ l ∧ ∀ x ∈ xs, (x.client.size : Int) ≤ l ∧ (x.items.length : Int) ≤ l ∧ (x.kept.length : Int) ≤ l
  | [], l, h0, h => by simp [szLA] at h; simp [szA]; omega
  | x :: xs, l, h0, h => by
    simp only [szLA] at h
    split at h
    · omega
    · rename_i hh
      have h1 := szA1_pos (x := x) (l := l) (by omega) (by omega)
      obtain ⟨h2, h3⟩ := szLA_bd xs (szA1 l x) (by omega) h
      refine ⟨by simp only [szA, List.length_cons]; omega, fun y hy => ?_⟩
      rcases List.mem_cons.1 hy with rfl | hy
      · omega
      · have := h3 y hy; omega
theorem szAV_pos {xs : List AR} (h : 0 ≤ szAV 1048576 xs) : xs.length ≤ 1048576 ∧ (∀ x ∈ xs, smA x) ∧ szA xs ≤ 5242880 := by
  unfold szAV at h
  split at h
  · omega
  · rename_i hh
    obtain ⟨h1, h2⟩ := szLA_bd xs _ (by omega) h
    refine ⟨by omega, fun x hx => ?_, by omega⟩
    have := h2 x hx
    exact ⟨by omega, by omega, by omega⟩


end Go.Proofs.YtehohkdipfphmaaDoor
