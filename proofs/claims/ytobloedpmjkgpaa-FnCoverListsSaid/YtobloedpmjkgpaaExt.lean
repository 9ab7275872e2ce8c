/- More words: marks of ints, rows that lie apart, the first index of a property. -/
import Derived.Test.YtobloedpmjkgpaaBase
import Derived.StillTailTactics
namespace Go.Proofs.Ytobloedpmjkgpaa
set_option linter.unusedVariables false
set_option linter.unusedSimpArgs false
open Go.RowKit

/-- The call returns a slice that owns cs, and an int. -/
def RetOwnI (E size n : Nat) (cs : List Value) (i : Int) (W : World) : Ending → World → Prop := fun e w' => ∃ v, e = .returned (.tuple #[v, .int .i64 i]) ∧ w'.ownsRow W.heap.size E size v n cs ∧ Below W.heap.size W w'

theorem rows_apart {u v : Option Nat} {B C : Nat} (hu : ∀ k, u = some k → k < B) (hv : ∀ k, v = some k → C ≤ k) (h : B ≤ C) : u = none ∨ u ≠ v := by
  cases u with
  | none => exact .inl rfl
  | some a =>
    right; rintro rfl
    have := hu a rfl; have := hv a rfl; omega
theorem rows_apart' {u v : Option Nat} {B C : Nat} (hu : ∀ k, u = some k → B ≤ k) (hv : ∀ k, v = some k → k < C) (h : C ≤ B) : u = none ∨ u ≠ v := by
  cases u with
  | none => exact .inl rfl
  | some a =>
    right; rintro rfl
    have := hu a rfl; have := hv a rfl; omega

def marks1 (k : Int) (n : Nat) : List Int := (List.range n).map (fun (i : Nat) => k + (i : Int))
theorem marks1_succ (k : Int) (n : Nat) : marks1 k (n + 1) = marks1 k n ++ [k + (n : Int)] := by simp [marks1, List.range_succ]
theorem length_marks1 (k : Int) (n : Nat) : (marks1 k n).length = n := by simp [marks1]
theorem marks1_get (k : Int) (n i : Nat) (h : i < n) : (marks1 k n)[i]? = some (k + (i : Int)) := by simp [marks1, h]
def MarkRel1 (W : World) (base E g n cap : Nat) (k0 : Int) (i : Nat) (wr : World) : Prop :=
  ∃ rest, rest.length = n - i ∧ wr.ownsRow base E 1 (.slice (some ⟨g, 0, none⟩) n cap) n (cells1 (marks1 k0 i) ++ rest) ∧ W.grownBy wr (some g)
theorem MarkRel1.step {W wr : World} {base E g n cap i : Nat} {k0 : Int} (h : MarkRel1 W base E g n cap k0 i wr) (hi : i < n) : MarkRel1 W base E g n cap k0 (i + 1) (wr.setCell ⟨g, i, none⟩ (.int .i64 (k0 + i))) := by
  obtain ⟨rest, hr, ho, hB⟩ := h
  obtain ⟨u, post, rfl⟩ : ∃ u post, rest = u :: post := by
    cases rest with
    | nil => simp at hr; omega
    | cons u post => exact ⟨u, post, rfl⟩
  obtain ⟨h1, h2⟩ := ho.stored i (.int .i64 (k0 + i))
  refine ⟨post, by simp at hr; omega, ?_, World.grownBy.trans hB h2⟩
  have hl : (cells1 (marks1 k0 i)).length = i := by rw [length_cells1, length_marks1]
  rw [List.set_append_right _ _ (by omega), hl, Nat.sub_self] at h1
  rw [marks1_succ, cells1_append, List.append_assoc]
  exact h1

/-- A drawn region whose first n operations leave the very world, the others in one forced order. -/
theorem wp_region_stay_tail {P : Program} {id : Nat} {Q : Exit → Act → World → Prop} {a : Act} {w : World} {l : List Oper} (n : Nat) (hm : P.follows .mixedOrders = true) (hB : Region.lexTailB .any l.toArray n = true)
    (h : wpStill P l.toArray w.drew (fun a' => wpList P l.toArray Q (l.drop n) a' w.drew) (l.take n) a) : (Code.region id l.toArray true).wp P Q a w := wp_region_still_tail n hm hB h

/-- An empty slice literal. -/
theorem own_empty (w : World) (base e size : Nat) (hb : base ≤ w.heap.size) : (w.alloc (.cells #[] e)).ownsRow base e size (.slice (some ⟨w.heap.size, 0, none⟩) 0 0) 0 [] :=
  World.ownsRow_lit w #[] 0 hb (by simp) (by simp)
/-- Behind an append: a block that is not the row's own is as it was. -/
theorem app_keep {w w' : World} {row : Option Nat} (hg : w.grownBy w' row) {b : Nat} (hb : b < w.heap.size) (hne : some b ≠ row) : ∀ o, w'.cell? ⟨b, o, none⟩ = w.cell? ⟨b, o, none⟩ :=
  fun o => World.cell?_of_block (a := ⟨b, o, none⟩) (hg.block b hb hne)
theorem own_ne {w : World} {base e size n : Nat} {v : Value} {cs : List Value} (h : w.ownsRow base e size v n cs) {b : Nat} (hb : w.heap.size ≤ b) : some b ≠ v.ownBlock := fun e => by have := (h.lt _ e.symm).2; omega

/-- The first index at which p holds, or -1. -/
def idxV {α : Type} (p : α → Bool) (xs : List α) : Int := match xs.findIdx? p with | some i => (i : Int) | none => -1
theorem idxV_hit {α : Type} {p : α → Bool} {xs : List α} {k : Nat} {x : α} (h : ∀ (j : Nat) (y : α), j < k → xs[j]? = some y → p y = false) (hx : xs[k]? = some x) (hp : p x = true) : idxV p xs = k := by
  have hk := (List.getElem?_eq_some_iff.1 hx).1
  have : xs.findIdx? p = some k := by
    rw [List.findIdx?_eq_some_iff_getElem]
    refine ⟨hk, ?_, fun j hj => ?_⟩
    · rw [List.getElem?_eq_getElem hk] at hx; injection hx with hx; rw [hx]; exact hp
    · have := h j xs[j] hj (List.getElem?_eq_getElem (by omega)); simp [this]
  simp [idxV, this]
theorem idxV_miss {α : Type} {p : α → Bool} {xs : List α} (h : ∀ (j : Nat) (y : α), xs[j]? = some y → p y = false) : idxV p xs = -1 := by
  have : xs.findIdx? p = none := by
    rw [List.findIdx?_eq_none_iff]
    intro x hx
    obtain ⟨j, hj, rfl⟩ := List.getElem_of_mem hx
    exact h j _ (List.getElem?_eq_getElem hj)
  simp [idxV, this]
theorem idxV_cases {α : Type} (p : α → Bool) (xs : List α) : idxV p xs = -1 ∧ (∀ x ∈ xs, p x = false) ∨ ∃ (k : Nat) (x : α), idxV p xs = k ∧ xs[k]? = some x ∧ p x = true ∧ ∀ (j : Nat) (y : α), j < k → xs[j]? = some y → p y = false := by
  cases h : xs.findIdx? p with
  | none => left; exact ⟨by simp [idxV, h], fun x hx => by have := (List.findIdx?_eq_none_iff.1 h) x hx; simpa using this⟩
  | some k =>
    right
    obtain ⟨hk, hp, hj⟩ := List.findIdx?_eq_some_iff_getElem.1 h
    refine ⟨k, xs[k], by simp [idxV, h], List.getElem?_eq_getElem hk, hp, fun j y hjk hy => ?_⟩
    have := hj j hjk
    rw [List.getElem?_eq_getElem (by omega)] at hy
    injection hy with hy
    rw [hy] at this
    simpa using this

/-! ### Lists whose elements are valid and stand in order -/
section
variable (one : R5 → Bool) (bef : R5 → R5 → Bool)
def okG (xs : List R5) (j : Nat) : Bool := match xs[j]? with
  | some x => one x && (j == 0 || match xs[j - 1]? with | some y => bef y x | none => false)
  | none => true
def allG (xs : List R5) : Bool := (List.range xs.length).all (okG one bef xs)
end
section
variable {one : R5 → Bool} {bef : R5 → R5 → Bool} {xs : List R5} {k : Nat} {x y : R5}
theorem okG_no (h : xs[k]? = some x) (hv : one x = false) : okG one bef xs k = false := by simp [okG, h, hv]
theorem okG_first (h : xs[k]? = some x) (hv : one x = true) (hk : k = 0) : okG one bef xs k = true := by subst hk; simp only [okG, h]; simp [hv]
theorem okG_next (h : xs[k]? = some x) (hv : one x = true) (hk : k ≠ 0) (hy : xs[k - 1]? = some y) : okG one bef xs k = bef y x := by simp [okG, h, hv, hk, hy]
theorem allG_no (hk : k < xs.length) (h : okG one bef xs k = false) : allG one bef xs = false := by
  unfold allG; rw [List.all_eq_false]; exact ⟨k, by simpa using hk, by simp [h]⟩
theorem allG_end (h : ∀ j, j < xs.length → okG one bef xs j = true) : allG one bef xs = true := by
  unfold allG; rw [List.all_eq_true]; intro j hj; exact h j (by simpa using hj)
theorem allG_at (h : allG one bef xs = true) (hx : xs[k]? = some x) : one x = true := by
  unfold allG at h; rw [List.all_eq_true] at h
  have := h k (by simpa using (List.getElem?_eq_some_iff.1 hx).1)
  simp only [okG, hx, Bool.and_eq_true] at this
  exact this.1
theorem allG_ord (h : allG one bef xs = true) (hx : xs[k + 1]? = some x) (hy : xs[k]? = some y) : bef y x = true := by
  unfold allG at h; rw [List.all_eq_true] at h
  have := h (k + 1) (by simpa using (List.getElem?_eq_some_iff.1 hx).1)
  simp only [okG, hx, Bool.and_eq_true, Nat.add_sub_cancel, hy] at this
  simpa using this.2
/-- The relation of a loop that tests a list. -/
def GRel (one : R5 → Bool) (bef : R5 → R5 → Bool) (xs : List R5) (k : Nat) : Prop := ∀ j, j < k → okG one bef xs j = true
theorem GRel.zero : GRel one bef xs 0 := fun j hj => by omega
theorem GRel.step (h : GRel one bef xs k) (hok : okG one bef xs k = true) : GRel one bef xs (k + 1) := fun j hj => by
  rcases Nat.lt_or_ge j k with hj' | hj'
  · exact h j hj'
  · have : j = k := by omega
    subst this; exact hok
theorem GRel.all (h : GRel one bef xs k) (hk : xs.length ≤ k) : allG one bef xs = true := allG_end fun j hj => h j (by omega)
end

/-! ### Sums over a list -/
def sumF (f : R5 → Int) (xs : List R5) : Int := (xs.map f).sum
theorem sumF_take (f : R5 → Int) {xs : List R5} {k : Nat} {x : R5} (h : xs[k]? = some x) : sumF f (xs.take (k + 1)) = sumF f (xs.take k) + f x := by
  rw [List.take_add_one, h]; simp [sumF, Option.toList]
/-- The relation of a loop that sums f up, f from 0 to M. -/
def SumRelF (W : World) (f : R5 → Int) (M : Int) (xs : List R5) (k : Nat) (m : Int) (wr : World) : Prop := m = sumF f (xs.take k) ∧ (0 ≤ m ∧ m ≤ M * k) ∧ Below W.heap.size W wr
theorem SumRelF.zero {W : World} {f : R5 → Int} {M : Int} {xs : List R5} : SumRelF W f M xs 0 0 W := ⟨rfl, by simp, Below.refl _ _⟩
theorem SumRelF.next {W wr w1 : World} {f : R5 → Int} {M : Int} {xs : List R5} {k : Nat} {m m' : Int} {x : R5} (h : SumRelF W f M xs k m wr) (hx : xs[k]? = some x) (hf : 0 ≤ f x ∧ f x ≤ M) (hm : m' = m + f x) (hb : Below W.heap.size wr w1) :
    SumRelF W f M xs (k + 1) m' w1 := by
  obtain ⟨h1, h2, h3⟩ := h
  refine ⟨by rw [sumF_take f hx, hm, h1], ?_, h3.trans hb⟩
  have : M * ((k + 1 : Nat) : Int) = M * k + M := by rw [Int.natCast_add, Int.mul_add]; simp
  rw [hm, this]; omega
theorem SumRelF.all {W wr : World} {f : R5 → Int} {M : Int} {xs : List R5} {k : Nat} {m : Int} (h : SumRelF W f M xs k m wr) (hk : xs.length ≤ k) : m = sumF f xs := by
  rw [h.1, List.take_of_length_le hk]
theorem sumF_bd {f : R5 → Int} {M : Int} : ∀ {xs : List R5}, (∀ x ∈ xs, 0 ≤ f x ∧ f x ≤ M) → 0 ≤ sumF f xs ∧ sumF f xs ≤ M * xs.length
  | [], _ => by simp [sumF]
  | x :: xs, h => by
    have ih := sumF_bd (f := f) (M := M) (xs := xs) (fun y hy => h y (List.mem_cons_of_mem _ hy))
    have hx := h x (List.mem_cons_self ..)
    have : M * (((x :: xs).length : Nat) : Int) = M * xs.length + M := by simp [Int.mul_add]
    rw [this]
    simp only [sumF, List.map_cons, List.sum_cons] at *
    omega
end Go.Proofs.Ytobloedpmjkgpaa
