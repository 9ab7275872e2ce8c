/- Rows within a span of blocks; a world that turned within a span. -/
import Derived.Test.YtehohkdipfphmaaDoorIn
import Derived.Test.YtehohkdipfphmaaDoorExt
namespace Go.Proofs.YtehohkdipfphmaaDoor
set_option linter.unusedVariables false
set_option linter.unusedSimpArgs false
open Go.RowKit

/-- Only blocks from lo to hi were written, beside new ones. -/
structure Within (lo hi : Nat) (w w' : World) : Prop where
  os : w'.os = w.os
  tape : w'.tape = w.tape
  output : w'.output = w.output
  size : w.heap.size ≤ w'.heap.size
  block : ∀ k, k < w.heap.size → (k < lo ∨ hi ≤ k) → w'.heap[k]? = w.heap[k]?
theorem Within.refl (lo hi : Nat) (w : World) : Within lo hi w w := ⟨rfl, rfl, rfl, Nat.le_refl _, fun _ _ _ => rfl⟩
theorem Within.trans {lo hi : Nat} {a b c : World} (h : Within lo hi a b) (k : Within lo hi b c) : Within lo hi a c :=
  ⟨k.os.trans h.os, k.tape.trans h.tape, k.output.trans h.output, Nat.le_trans h.size k.size, fun i h1 h2 => (k.block i (Nat.lt_of_lt_of_le h1 h.size) h2).trans (h.block i h1 h2)⟩
theorem Within.of_grown {lo hi : Nat} {w w' : World} {row : Option Nat} (h : w.grownBy w' row) (hr : ∀ k, row = some k → lo ≤ k ∧ k < hi) : Within lo hi w w' :=
  ⟨h.os, h.tape, h.output, h.size, fun k h1 h2 => h.block k h1 (fun e => by have := hr k e.symm; omega)⟩
theorem Within.below {lo hi B : Nat} {w w' : World} (h : Within lo hi w w') (hB : B ≤ lo) (hw : B ≤ w.heap.size) : Below B w w' :=
  ⟨h.os, h.tape, h.output, h.size, fun k hk => h.block k (by omega) (.inl (by omega))⟩
theorem Within.of_below {lo hi : Nat} {w w' : World} (h : Below w.heap.size w w') : Within lo hi w w' :=
  ⟨h.os, h.tape, h.output, h.size, fun k h1 _ => h.block k h1⟩

theorem Within.setCell {lo hi : Nat} {a w : World} (h : Within lo hi a w) {p : Addr} (h1 : lo ≤ p.block) (h2 : p.block < hi) (u : Value) : Within lo hi a (w.setCell p u) :=
  h.trans ⟨rfl, rfl, rfl, by simp, fun k _ hk => Below.heap_setCell w p u k (by omega)⟩
/-- A row of the call's own whose block lies below hi. -/
def OwnT (w : World) (lo hi E size : Nat) (v : Value) (n : Nat) (cs : List Value) : Prop := w.ownsRow lo E size v n cs ∧ ∀ k, v.ownBlock = some k → k < hi
theorem OwnT.below {w w' : World} {lo hi E size n : Nat} {v : Value} {cs : List Value} (h : OwnT w lo hi E size v n cs) (hb : Below w.heap.size w w') : OwnT w' lo hi E size v n cs := ⟨own_below h.1 hb, h.2⟩
theorem own_within {w w' : World} {lo lo' hi' E size n : Nat} {v : Value} {cs : List Value} (h : w.ownsRow lo E size v n cs) (hw : Within lo' hi' w w') (hd : ∀ k, v.ownBlock = some k → k < lo' ∨ hi' ≤ k) : w'.ownsRow lo E size v n cs := by
  refine ⟨h.1, ?_⟩
  rcases h.2 with h2 | ⟨g, cap, cur, hv, hg, hh, r⟩
  · exact .inl h2
  · exact .inr ⟨g, cap, cur, hv, hg, (hw.block g (Array.getElem?_eq_some_iff.1 hh).1 (hd g (by rw [hv]; rfl))).trans hh, r⟩
theorem OwnT.within {w w' : World} {lo hi lo' hi' E size n : Nat} {v : Value} {cs : List Value} (h : OwnT w lo hi E size v n cs) (hw : Within lo' hi' w w') (hd : hi ≤ lo' ∨ hi' ≤ lo) : OwnT w' lo hi E size v n cs :=
  ⟨own_within h.1 hw (fun k hk => by have := (h.1.lt k hk).1; have := h.2 k hk; omega), h.2⟩

/-! ### Slices of ints as values -/
/-- The value is a slice that reads as the list. -/
def RdI (w : World) (v : Value) (zs : List Int) : Prop := ∃ A c, v = .slice A zs.length c ∧ zs.length ≤ c ∧ c ≤ maxLen ∧ Rd w A (cells1 zs)
theorem RdI.below {w w' : World} {v : Value} {zs : List Int} (h : RdI w v zs) (hb : Below w.heap.size w w') : RdI w' v zs := by
  obtain ⟨A, c, h1, h2, h3, h4⟩ := h
  exact ⟨A, c, h1, h2, h3, h4.below hb⟩
theorem RdI.of_own {w : World} {base e : Nat} {v : Value} {zs : List Int} (h : w.ownsRow base e 1 v zs.length (cells1 zs)) : RdI w v zs := by
  obtain ⟨A, c, rfl⟩ := own_form h
  refine ⟨A, c, rfl, ?_, ?_, Rd.of_own h⟩
  · rcases h.2 with ⟨h', h0⟩ | ⟨g, cap, cur, h', _, _, hnc, hcm, _⟩
    · omega
    · injection h' with _ _ h3; omega
  · rcases h.2 with ⟨h', h0⟩ | ⟨g, cap, cur, h', _, _, hnc, hcm, _⟩
    · injection h' with _ _ h3; omega
    · injection h' with _ _ h3; omega
end Go.Proofs.YtehohkdipfphmaaDoor
