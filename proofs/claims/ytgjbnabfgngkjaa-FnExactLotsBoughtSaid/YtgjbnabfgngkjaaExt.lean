/- More words: marks of ints, rows that lie apart, the first index of a property. -/
import Derived.Test.YtgjbnabfgngkjaaBase
namespace Go.Proofs.Ytgjbnabfgngkjaa
open Go.RowKit

/-- The call returns a slice that owns cs, and an int. -/
def RetOwnI (E size n : Nat) (cs : List Value) (i : Int) (W : World) : Ending → World → Prop := fun e w' => ∃ v, e = .returned (.tuple #[v, .int .i64 i]) ∧ w'.ownsRow W.heap.size E size v n cs ∧ Below W.heap.size W w'

theorem rows_apart {u v : Option Nat} {B C : Nat} (hu : ∀ k, u = some k → k < B) (hv : ∀ k, v = some k → C ≤ k) (h : B ≤ C) : u = none ∨ u ≠ v := by
  cases u with
  | none => exact .inl rfl
  | some a =>
    right; rintro rfl
    have := hu a rfl; have := hv a rfl; omega
theorem rows_apart' {u v : Option Nat} {B C : Nat} (hu : ∀ k, u = some k → B ≤ k) (hv : ∀ k, v = some k → k < C) (h : C ≤ B) : u = none ∨ u ≠ v := by
  cases u with
  | none => exact .inl rfl
  | some a =>
    right; rintro rfl
    have := hu a rfl; have := hv a rfl; omega

def marks1 (k : Int) (n : Nat) : List Int := (List.range n).map (fun (i : Nat) => k + (i : Int))
theorem marks1_succ (k : Int) (n : Nat) : marks1 k (n + 1) = marks1 k n ++ [k + (n : Int)] := by simp [marks1, List.range_succ]
theorem length_marks1 (k : Int) (n : Nat) : (marks1 k n).length = n := by simp [marks1]
theorem marks1_get (k : Int) (n i : Nat) (h : i < n) : (marks1 k n)[i]? = some (k + (i : Int)) := by simp [marks1, h]
def MarkRel1 (W : World) (base E g n cap : Nat) (k0 : Int) (i : Nat) (wr : World) : Prop :=
  ∃ rest, rest.length = n - i ∧ wr.ownsRow base E 1 (.slice (some ⟨g, 0, none⟩) n cap) n (cells1 (marks1 k0 i) ++ rest) ∧ W.grownBy wr (some g)
theorem MarkRel1.step {W wr : World} {base E g n cap i : Nat} {k0 : Int} (h : MarkRel1 W base E g n cap k0 i wr) (hi : i < n) : MarkRel1 W base E g n cap k0 (i + 1) (wr.setCell ⟨g, i, none⟩ (.int .i64 (k0 + i))) := by
  obtain ⟨rest, hr, ho, hB⟩ := h
  obtain ⟨u, post, rfl⟩ : ∃ u post, rest = u :: post := by
    cases rest with
    | nil => simp at hr; omega
    | cons u post => exact ⟨u, post, rfl⟩
  obtain ⟨h1, h2⟩ := ho.stored i (.int .i64 (k0 + i))
  refine ⟨post, by simp at hr; omega, ?_, World.grownBy.trans hB h2⟩
  have hl : (cells1 (marks1 k0 i)).length = i := by rw [length_cells1, length_marks1]
  rw [List.set_append_right _ _ (by omega), hl, Nat.sub_self] at h1
  rw [marks1_succ, cells1_append, List.append_assoc]
  exact h1

/-- An empty slice literal. -/
theorem own_empty (w : World) (base e size : Nat) (hb : base ≤ w.heap.size) : (w.alloc (.cells #[] e)).ownsRow base e size (.slice (some ⟨w.heap.size, 0, none⟩) 0 0) 0 [] :=
  World.ownsRow_lit w #[] 0 hb (by simp) (by simp)
/-- Behind an append: a block that is not the row's own is as it was. -/
theorem app_keep {w w' : World} {row : Option Nat} (hg : w.grownBy w' row) {b : Nat} (hb : b < w.heap.size) (hne : some b ≠ row) : ∀ o, w'.cell? ⟨b, o, none⟩ = w.cell? ⟨b, o, none⟩ :=
  fun o => World.cell?_of_block (a := ⟨b, o, none⟩) (hg.block b hb hne)
theorem own_ne {w : World} {base e size n : Nat} {v : Value} {cs : List Value} (h : w.ownsRow base e size v n cs) {b : Nat} (hb : w.heap.size ≤ b) : some b ≠ v.ownBlock := fun e => by have := (h.lt _ e.symm).2; omega

/-- The first index at which p holds, or -1. -/
def idxV {α : Type} (p : α → Bool) (xs : List α) : Int := match xs.findIdx? p with | some i => (i : Int) | none => -1
theorem idxV_hit {α : Type} {p : α → Bool} {xs : List α} {k : Nat} {x : α} (h : ∀ (j : Nat) (y : α), j < k → xs[j]? = some y → p y = false) (hx : xs[k]? = some x) (hp : p x = true) : idxV p xs = k := by
  have hk := (List.getElem?_eq_some_iff.1 hx).1
  have : xs.findIdx? p = some k := by
    rw [List.findIdx?_eq_some_iff_getElem]
    refine ⟨hk, ?_, fun j hj => ?_⟩
    · rw [List.getElem?_eq_getElem hk] at hx; injection hx with hx; rw [hx]; exact hp
    · have := h j xs[j] hj (List.getElem?_eq_getElem (by omega)); simp [this]
  simp [idxV, this]
theorem idxV_miss {α : Type} {p : α → Bool} {xs : List α} (h : ∀ (j : Nat) (y : α), xs[j]? = some y → p y = false) : idxV p xs = -1 := by
  have : xs.findIdx? p = none := by
    rw [List.findIdx?_eq_none_iff]
    intro x hx
    obtain ⟨j, hj, rfl⟩ := List.getElem_of_mem hx
    exact h j _ (List.getElem?_eq_getElem hj)
  simp [idxV, this]
theorem idxV_cases {α : Type} (p : α → Bool) (xs : List α) : idxV p xs = -1 ∧ (∀ x ∈ xs, p x = false) ∨ ∃ (k : Nat) (x : α), idxV p xs = k ∧ xs[k]? = some x ∧ p x = true ∧ ∀ (j : Nat) (y : α), j < k → xs[j]? = some y → p y = false := by
  cases h : xs.findIdx? p with
  | none => left; exact ⟨by simp [idxV, h], fun x hx => by have := (List.findIdx?_eq_none_iff.1 h) x hx; simpa using this⟩
  | some k =>
    right
    obtain ⟨hk, hp, hj⟩ := List.findIdx?_eq_some_iff_getElem.1 h
    refine ⟨k, xs[k], by simp [idxV, h], List.getElem?_eq_getElem hk, hp, fun j y hjk hy => ?_⟩
    have := hj j hjk
    rw [List.getElem?_eq_getElem (by omega)] at hy
    injection hy with hy
    rw [hy] at this
    simpa using this
end Go.Proofs.Ytgjbnabfgngkjaa
