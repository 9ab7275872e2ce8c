/- Rows apart; what was written; sizes of lists of ints. (Taken from the stock book's texts.) -/
import Derived.Test.YtehohkdipfphmaaDoorNest
import Derived.Test.YtehohkdipfphmaaDoorInts
import Derived.Test.YtehohkdipfphmaaDoorRise
namespace Go.Proofs.YtehohkdipfphmaaDoor
set_option linter.unusedVariables false
set_option linter.unusedSimpArgs false
open Go.RowKit

/-- No two of the values have the same block. -/
def Apart (L : List Value) : Prop := ∀ (i j : Nat) (a b : Value) (k : Nat), i < j → L[i]? = some a → L[j]? = some b → a.ownBlock = some k → b.ownBlock ≠ some k
theorem apart_snoc {vs : List Value} {u : Value} {B : Nat} (h : Apart vs) (h1 : ∀ (i : Nat) (a : Value) (k : Nat), vs[i]? = some a → a.ownBlock = some k → k < B) (h2 : ∀ k, u.ownBlock = some k → B ≤ k) : Apart (vs ++ [u]) := by
  intro i j a b k hij ha hb hk hbk
  have hj : j < vs.length + 1 := by have := (List.getElem?_eq_some_iff.1 hb).1; simpa using this
  rw [List.getElem?_append_left (by omega)] at ha
  rcases Nat.lt_or_ge j vs.length with hjl | hjl
  · rw [List.getElem?_append_left hjl] at hb
    exact h i j a b k hij ha hb hk hbk
  · rw [List.getElem?_append_right hjl, show j - vs.length = 0 by omega] at hb
    simp at hb; subst hb
    have := h1 i a k ha hk; have := h2 k hbk; omega
theorem apart_cons {vs : List Value} {v : Value} (h : Apart vs) (h1 : ∀ (j : Nat) (b : Value) (k : Nat), vs[j]? = some b → v.ownBlock = some k → b.ownBlock ≠ some k) : Apart (v :: vs) := by
  intro i j a b k hij ha hb hk
  cases j with
  | zero => omega
  | succ j =>
    cases i with
    | zero => simp at ha hb; subst ha; exact h1 j b k hb hk
    | succ i => exact h i j a b k (by omega) (by simpa using ha) (by simpa using hb) hk

/-- Only blocks of S were written, beside new ones. -/
structure Only (S : Nat → Prop) (w w' : World) : Prop where
  os : w'.os = w.os
  tape : w'.tape = w.tape
  output : w'.output = w.output
  size : w.heap.size ≤ w'.heap.size
  block : ∀ k, k < w.heap.size → ¬ S k → w'.heap[k]? = w.heap[k]?
theorem Only.refl (S : Nat → Prop) (w : World) : Only S w w := ⟨rfl, rfl, rfl, Nat.le_refl _, fun _ _ _ => rfl⟩
theorem Only.trans {S : Nat → Prop} {a b c : World} (h : Only S a b) (k : Only S b c) : Only S a c :=
  ⟨k.os.trans h.os, k.tape.trans h.tape, k.output.trans h.output, Nat.le_trans h.size k.size, fun i h1 h2 => (k.block i (Nat.lt_of_lt_of_le h1 h.size) h2).trans (h.block i h1 h2)⟩
theorem Only.of_grown {w w' : World} {row : Option Nat} (h : w.grownBy w' row) : Only (fun k => row = some k) w w' :=
  ⟨h.os, h.tape, h.output, h.size, fun k h1 h2 => h.block k h1 (fun e => h2 e.symm)⟩
theorem Only.mono {S T : Nat → Prop} {w w' : World} (h : Only S w w') (hT : ∀ k, S k → T k) : Only T w w' :=
  ⟨h.os, h.tape, h.output, h.size, fun k h1 h2 => h.block k h1 (fun e => h2 (hT k e))⟩
theorem Only.below {S : Nat → Prop} {B : Nat} {w w' : World} (h : Only S w w') (hS : ∀ k, S k → B ≤ k) (hB : B ≤ w.heap.size) : Below B w w' :=
  ⟨h.os, h.tape, h.output, h.size, fun k hk => h.block k (by omega) (fun e => by have := hS k e; omega)⟩
theorem Only.of_below {S : Nat → Prop} {w w' : World} (h : Below w.heap.size w w') : Only S w w' :=
  ⟨h.os, h.tape, h.output, h.size, fun k h1 _ => h.block k h1⟩
theorem own_only {w w' : World} {S : Nat → Prop} {lo E size n : Nat} {v : Value} {cs : List Value} (h : w.ownsRow lo E size v n cs) (hw : Only S w w') (hd : ∀ k, v.ownBlock = some k → S k → False) : w'.ownsRow lo E size v n cs := by
  refine ⟨h.1, ?_⟩
  rcases h.2 with h2 | ⟨g, cap, cur, hv, hg, hh, r⟩
  · exact .inl h2
  · exact .inr ⟨g, cap, cur, hv, hg, (hw.block g (Array.getElem?_eq_some_iff.1 hh).1 (hd g (by rw [hv]; rfl))).trans hh, r⟩
/-- The blocks of a list of rows. -/
def inB (v : Value) (vs : List Value) (k : Nat) : Prop := ∃ (j : Nat) (a : Value), (v :: vs)[j]? = some a ∧ a.ownBlock = some k

theorem Apart.ne {L : List Value} {i j : Nat} {a b : Value} (h : Apart L) (hij : i ≠ j) (ha : L[i]? = some a) (hb : L[j]? = some b) : a.ownBlock = none ∨ a.ownBlock ≠ b.ownBlock := by
  cases e : a.ownBlock with
  | none => exact .inl rfl
  | some k =>
    refine .inr fun h2 => ?_
    rcases Nat.lt_or_gt_of_ne hij with hlt | hlt
    · exact h i j a b k hlt ha hb e h2.symm
    · exact h j i b a k hlt hb ha h2.symm e
theorem apart_of {L : List Value} (h : ∀ (i j : Nat) (a b : Value) (k : Nat), i ≠ j → L[i]? = some a → L[j]? = some b → a.ownBlock = some k → b.ownBlock = some k → False) : Apart L :=
  fun i j a b k hij ha hb hk hk' => h i j a b k (by omega) ha hb hk hk'
theorem Apart.no {L : List Value} {i j : Nat} {a b : Value} {k : Nat} (h : Apart L) (hij : i ≠ j) (ha : L[i]? = some a) (hb : L[j]? = some b) (hk : a.ownBlock = some k) (hk' : b.ownBlock = some k) : False := by
  rcases h.ne hij ha hb with e | e
  · rw [e] at hk; cases hk
  · exact e (hk.trans hk'.symm)
theorem Apart.map {L L' : List Value} (h : Apart L) (σ : Nat → Nat) (hσ : ∀ i j, σ i = σ j → i = j) (hL : ∀ (j : Nat) (a : Value), L'[j]? = some a → L[σ j]? = some a) : Apart L' :=
  apart_of fun i j a b k hij ha hb hk hk' => h.no (fun e => hij (hσ i j e)) (hL i a ha) (hL j b hb) hk hk'
theorem Apart.set {L : List Value} {m B : Nat} {u u' : Value} (h : Apart L) (hm : L[m]? = some u) (hu : ∀ k, u'.ownBlock = some k → u.ownBlock = some k ∨ B ≤ k) (hB : ∀ (j : Nat) (a : Value) (k : Nat), L[j]? = some a → a.ownBlock = some k → k < B) : Apart (L.set m u') := by
  have hml : m < L.length := (List.getElem?_eq_some_iff.1 hm).1
  refine apart_of fun i j a b k hij ha hb hk hk' => ?_
  by_cases hi : i = m
  · subst hi
    rw [List.getElem?_set_self hml] at ha; injection ha with ha; subst ha
    rw [List.getElem?_set_ne hij] at hb
    rcases hu k hk with e | e
    · exact h.no hij hm hb e hk'
    · have := hB j b k hb hk'; omega
  · rw [List.getElem?_set_ne (fun e => hi e.symm)] at ha
    by_cases hj : j = m
    · subst hj
      rw [List.getElem?_set_self hml] at hb; injection hb with hb; subst hb
      rcases hu k hk' with e | e
      · exact h.no hij ha hm hk e
      · have := hB i a k ha hk; omega
    · rw [List.getElem?_set_ne (fun e => hj e.symm)] at hb
      exact h.no hij ha hb hk hk'

theorem mid_set {α : Type} {l : List α} {i : Nat} (hl : l.length = i) (x y : α) (r : List α) : (l ++ x :: r).set i y = l ++ y :: r := by
  subst hl; rw [List.set_append_right _ _ (Nat.le_refl _)]; simp
theorem mid_get {α : Type} {l : List α} {i : Nat} (hl : l.length = i) (x : α) (r : List α) : (l ++ x :: r)[i]? = some x := by
  subst hl; simp
theorem drop_cons {α : Type} {xs : List α} {i : Nat} {x : α} (h : xs[i]? = some x) : xs.drop i = x :: xs.drop (i + 1) := by
  rw [List.drop_eq_getElem?_toList_append, h]; rfl

end Go.Proofs.YtehohkdipfphmaaDoor
