/- Lists beside the drawing cursor. -/
import Derived.Test.YtobloedpmjkgpaaCur
namespace Go.Proofs.Ytobloedpmjkgpaa
set_option linter.unusedVariables false
set_option linter.unusedSimpArgs false
open Go.RowKit

def AggV (v : Value) : Prop := ∃ x : R5, v = .agg #[.int .i64 x.a, .int .i64 x.b, .int .i64 x.c, .int .i64 x.d, .int .i64 x.e]
def IntV (v : Value) : Prop := ∃ z : Int, v = .int .i64 z
theorem own_capS {w : World} {base e size n c : Nat} {A : Option Addr} {cs : List Value} (h : w.ownsRow base e size (.slice A n c) n cs) : n ≤ c ∧ c ≤ maxLen := by
  rcases h.2 with ⟨h', h0⟩ | ⟨g, cap, cur, h', _, _, hnc, hcm, _⟩
  · injection h' with _ _ h3
    subst h3; subst h0
    exact ⟨Nat.le_refl _, Nat.zero_le _⟩
  · injection h' with _ _ h3
    subst h3
    exact ⟨hnc, hcm⟩

theorem own_grown {w w' : World} {base e size n p : Nat} {v : Value} {cs : List Value} (h : w.ownsRow base e size v n cs) (hg : w.grownBy w' (some p)) (hp : p < base) : w'.ownsRow base e size v n cs :=
  h.kept hg (by
    rcases hv : v.ownBlock with _ | b
    · exact .inl rfl
    · right
      intro e
      injection e with e
      have := (h.lt b hv).1
      omega)
/-- The call returns a list of N structs at most in new memory; the cursor is d bytes further at most. -/
def RetCL (E N p : Nat) (u : Cu) (k d : Nat) (W : World) : Ending → World → Prop := fun e w' => ∃ v xs k', e = .returned v ∧ w'.ownsRow W.heap.size E 5 v xs.length (cells5 xs) ∧ xs.length ≤ N ∧ k' ≤ k + d ∧ CurB w' p u k' ∧ W.grownBy w' (some p)
structure LRel (W : World) (E p : Nat) (u : Cu) (xs : List R5) (v : Value) (k : Nat) (wr : World) : Prop where
  own : wr.ownsRow W.heap.size E 5 v xs.length (cells5 xs)
  cur : CurB wr p u k
  gr : W.grownBy wr (some p)
theorem LRel.call {W wr w1 : World} {E p k k1 : Nat} {u : Cu} {xs : List R5} {v : Value} (h : LRel W E p u xs v k wr) (hp : p < W.heap.size) (hc : CurB w1 p u k1) (hg : wr.grownBy w1 (some p)) : LRel W E p u xs v k1 w1 :=
  ⟨own_grown h.own hg hp, hc, grown_trans h.gr hg⟩
theorem LRel.sz {W wr : World} {E p k : Nat} {u : Cu} {xs : List R5} {v : Value} (h : LRel W E p u xs v k wr) : W.heap.size ≤ wr.heap.size := h.gr.size
theorem LRel.below {W wr w1 : World} {E p k : Nat} {u : Cu} {xs : List R5} {v : Value} (h : LRel W E p u xs v k wr) (hb : Below wr.heap.size wr w1) : LRel W E p u xs v k w1 :=
  ⟨own_below h.own hb, h.cur.grown hb, grown_trans h.gr (grown_below hb)⟩
/-- Another list in the place of the old one. -/
theorem LRel.new {W wr w1 : World} {E p k : Nat} {u : Cu} {xs ys : List R5} {v v' : Value} (h : LRel W E p u xs v k wr) (ho : w1.ownsRow wr.heap.size E 5 v' ys.length (cells5 ys)) (hb : Below wr.heap.size wr w1) : LRel W E p u ys v' k w1 :=
  ⟨own_mono ho h.sz, h.cur.grown hb, grown_trans h.gr (grown_below hb)⟩
/-- One more behind the list. -/
theorem LRel.push {W wr w1 w2 : World} {E p k : Nat} {u : Cu} {xs : List R5} {x : R5} {v v' : Value} (h : LRel W E p u xs v k wr) (hp : p < W.heap.size) (hb : Below wr.heap.size wr w1) (ho : w2.ownsRow W.heap.size E 5 v' (xs.length + 1) (cells5 xs ++ x.cells)) (hg : w1.grownBy w2 v.ownBlock) : LRel W E p u (xs ++ [x]) v' k w2 := by
  have h1 := h.below hb
  have e : cells5 (xs ++ [x]) = cells5 xs ++ x.cells := by rw [cells5_append, cells5_cons]; simp [cells5_nil]
  have hlo : ∀ b, v.ownBlock = some b → W.heap.size ≤ b := fun b hv => (h1.own.lt b hv).1
  refine ⟨by rw [e, List.length_append]; exact ho, ?_, ?_⟩
  · obtain ⟨⟨s, K⟩, r, f, b, l⟩ := h1.cur
    exact ⟨⟨s, K.grown hg (fun e => by have := hlo p e.symm; omega)⟩, rdU r f hg (fun b hb => by have := hlo b hb; omega), f, b, l⟩
  · exact ⟨hg.os.trans h1.gr.os, hg.tape.trans h1.gr.tape, hg.output.trans h1.gr.output, Nat.le_trans h1.gr.size hg.size, fun b hb hne => (hg.block b (Nat.lt_of_lt_of_le hb h1.gr.size) (fun e => by have := hlo b e.symm; omega)).trans (h1.gr.block b hb hne)⟩
/-- The bytes that a law was handed. -/
structure Bytes (w : World) (B : Option Addr) (zs : List Int) : Prop where
  rd : Rd w B (cellsU zs)
  byte : ∀ z ∈ zs, 0 ≤ z ∧ z ≤ 255
  len : zs.length ≤ 65536
theorem Bytes.below {w w' : World} {B : Option Addr} {zs : List Int} (h : Bytes w B zs) (hb : Below w.heap.size w w') : Bytes w' B zs := ⟨h.rd.below hb, h.byte, h.len⟩
theorem CurB.new {w : World} {B : Option Addr} {zs : List Int} (h : Bytes w B zs) (c : Nat) (t : TypeId) :
    CurB (w.alloc (.cells #[.slice B zs.length c, .int .i64 0, .int .u64 0] t)) w.heap.size ⟨B, c, zs⟩ 0 := by
  refine ⟨⟨0, Blk.new w _ t⟩, h.rd.alloc _, fun h0 g o q e => ?_, h.byte, h.len⟩
  rcases h.rd with hd | ⟨g', o', e', hlt, -⟩
  · exact absurd (by simpa [cellsU] using hd) h0
  · rw [e'] at e; injection e with e; injection e with e; omega
/-- The list that a draw returns: it reads as xs. -/
structure Lst (w : World) (v : Value) (xs : List R5) : Prop where
  form : ∃ A c, v = .slice A xs.length c ∧ Rd w A (cells5 xs) ∧ xs.length ≤ c ∧ c ≤ maxLen
  len : xs.length ≤ 22
theorem Lst.of {w : World} {base e : Nat} {v : Value} {xs : List R5} (h : w.ownsRow base e 5 v xs.length (cells5 xs)) (hl : xs.length ≤ 22) : Lst w v xs := by
  obtain ⟨A, c, rfl⟩ := own_form h
  exact ⟨⟨A, c, rfl, Rd.of_own h, (own_capS h).1, (own_capS h).2⟩, hl⟩
theorem Lst.below {w w' : World} {v : Value} {xs : List R5} (h : Lst w v xs) (hb : Below w.heap.size w w') : Lst w' v xs := by
  obtain ⟨⟨A, c, e, r, h1, h2⟩, hl⟩ := h
  exact ⟨⟨A, c, e, r.below hb, h1, h2⟩, hl⟩
structure LstI (w : World) (v : Value) (zs : List Int) : Prop where
  form : ∃ A c, v = .slice A zs.length c ∧ Rd w A (cells1 zs) ∧ zs.length ≤ c ∧ c ≤ maxLen
  len : zs.length ≤ 10
theorem LstI.below {w w' : World} {v : Value} {zs : List Int} (h : LstI w v zs) (hb : Below w.heap.size w w') : LstI w' v zs := by
  obtain ⟨⟨A, c, e, r, h1, h2⟩, hl⟩ := h
  exact ⟨⟨A, c, e, r.below hb, h1, h2⟩, hl⟩
theorem LstI.of {w : World} {base e : Nat} {v : Value} {zs : List Int} (h : w.ownsRow base e 1 v zs.length (cells1 zs)) (hl : zs.length ≤ 10) : LstI w v zs := by
  obtain ⟨A, c, rfl⟩ := own_form h
  exact ⟨⟨A, c, rfl, Rd.of_own h, (own_capS h).1, (own_capS h).2⟩, hl⟩
theorem LstI.grown {w w' : World} {p : Nat} {v : Value} {zs : List Int} (h : LstI w v zs) (hg : w.grownBy w' (some p)) (hp : ∀ A c g o q, v = .slice A zs.length c → A = some ⟨g, o, q⟩ → g ≠ p) : LstI w' v zs := by
  obtain ⟨⟨A, c, e, r, h1, h2⟩, hl⟩ := h
  exact ⟨⟨A, c, e, r.grown hg (fun g o q ea => by have := hp A c g o q e ea; simpa using this), h1, h2⟩, hl⟩

end Go.Proofs.Ytobloedpmjkgpaa
