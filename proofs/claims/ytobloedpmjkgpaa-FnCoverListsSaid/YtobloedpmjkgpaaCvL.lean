/- Lists of mails and of covers beside the cursor. -/
import Derived.Test.YtobloedpmjkgpaaCurL
import Derived.Test.YtobloedpmjkgpaaCvA
import Derived.Test.YtobloedpmjkgpaaList
namespace Go.Proofs.Ytobloedpmjkgpaa
set_option linter.unusedVariables false
set_option linter.unusedSimpArgs false
open Go.RowKit

def lenV : Value → Nat
  | .slice _ n _ => n
  | _ => 0
theorem info61 : (Try.prog.info? 61).map (fun i => (i.zero, i.size, i.bytes)) = some (some (.agg #[.int .i64 0, .int .i64 0, .int .i64 0, .int .i64 0, .int .i64 0]), 5, 40) := by kernel_rfl
theorem info58 : (Try.prog.info? 58).map (fun i => (i.zero, i.size, i.bytes)) = some (some (.agg #[.int .i64 0, .int .i64 0, .int .i64 0, .int .i64 0]), 4, 32) := by kernel_rfl
theorem info42 : (Try.prog.info? 42).map (fun i => (i.zero, i.size, i.bytes)) = some (some (.agg #[.int .i64 0, .int .i64 0, .int .i64 0, .int .i64 0, .int .i64 0, .int .i64 0, .int .i64 0, .int .i64 0, .int .i64 0]), 9, 72) := by kernel_rfl
theorem oneCell_1 (x : R5) : ∀ u ∈ x.cells, u.oneCell' = true := fun u hu => oneCell_cells5 [x] u (by simpa [cells5] using hu)
theorem oneCell_4 (x : R4) : ∀ u ∈ x.cells, u.oneCell' = true := fun u hu => oneCell_cells4 [x] u (by simpa [cells4] using hu)
theorem oneCell_9 (x : R9) : ∀ u ∈ x.cells, u.oneCell' = true := fun u hu => oneCell_cells9 [x] u (by simpa [cells9] using hu)

/-- The call returns a list of N structs at most in new memory; the cursor is d bytes further at most. -/
def RetCL4 (E N p : Nat) (u : Cu) (k d : Nat) (W : World) : Ending → World → Prop := fun e w' => ∃ v xs k', e = .returned v ∧ w'.ownsRow W.heap.size E 4 v xs.length (cells4 xs) ∧ xs.length ≤ N ∧ k' ≤ k + d ∧ CurB w' p u k' ∧ W.grownBy w' (some p)
structure LRel4 (W : World) (E p : Nat) (u : Cu) (xs : List R4) (v : Value) (k : Nat) (wr : World) : Prop where
  own : wr.ownsRow W.heap.size E 4 v xs.length (cells4 xs)
  cur : CurB wr p u k
  gr : W.grownBy wr (some p)
theorem LRel4.call {W wr w1 : World} {E p k k1 : Nat} {u : Cu} {xs : List R4} {v : Value} (h : LRel4 W E p u xs v k wr) (hp : p < W.heap.size) (hc : CurB w1 p u k1) (hg : wr.grownBy w1 (some p)) : LRel4 W E p u xs v k1 w1 :=
  ⟨own_grown h.own hg hp, hc, grown_trans h.gr hg⟩
theorem LRel4.sz {W wr : World} {E p k : Nat} {u : Cu} {xs : List R4} {v : Value} (h : LRel4 W E p u xs v k wr) : W.heap.size ≤ wr.heap.size := h.gr.size
theorem LRel4.below {W wr w1 : World} {E p k : Nat} {u : Cu} {xs : List R4} {v : Value} (h : LRel4 W E p u xs v k wr) (hb : Below wr.heap.size wr w1) : LRel4 W E p u xs v k w1 :=
  ⟨own_below h.own hb, h.cur.grown hb, grown_trans h.gr (grown_below hb)⟩
/-- Another list in the place of the old one. -/
theorem LRel4.new {W wr w1 : World} {E p k : Nat} {u : Cu} {xs ys : List R4} {v v' : Value} (h : LRel4 W E p u xs v k wr) (ho : w1.ownsRow wr.heap.size E 4 v' ys.length (cells4 ys)) (hb : Below wr.heap.size wr w1) : LRel4 W E p u ys v' k w1 :=
  ⟨own_mono ho h.sz, h.cur.grown hb, grown_trans h.gr (grown_below hb)⟩
/-- One more behind the list. -/
theorem LRel4.push {W wr w1 w2 : World} {E p k : Nat} {u : Cu} {xs : List R4} {x : R4} {v v' : Value} (h : LRel4 W E p u xs v k wr) (hp : p < W.heap.size) (hb : Below wr.heap.size wr w1) (ho : w2.ownsRow W.heap.size E 4 v' (xs.length + 1) (cells4 xs ++ x.cells)) (hg : w1.grownBy w2 v.ownBlock) : LRel4 W E p u (xs ++ [x]) v' k w2 := by
  have h1 := h.below hb
  have e : cells4 (xs ++ [x]) = cells4 xs ++ x.cells := by rw [cells4_append, cells4_cons]; simp [cells4_nil]
  have hlo : ∀ b, v.ownBlock = some b → W.heap.size ≤ b := fun b hv => (h1.own.lt b hv).1
  refine ⟨by rw [e, List.length_append]; exact ho, ?_, ?_⟩
  · obtain ⟨⟨s, K⟩, r, f, b, l⟩ := h1.cur
    exact ⟨⟨s, K.grown hg (fun e => by have := hlo p e.symm; omega)⟩, rdU r f hg (fun b hb => by have := hlo b hb; omega), f, b, l⟩
  · exact ⟨hg.os.trans h1.gr.os, hg.tape.trans h1.gr.tape, hg.output.trans h1.gr.output, Nat.le_trans h1.gr.size hg.size, fun b hb hne => (hg.block b (Nat.lt_of_lt_of_le hb h1.gr.size) (fun e => by have := hlo b e.symm; omega)).trans (h1.gr.block b hb hne)⟩
/-- The list that a draw returns: it reads as xs. -/
structure Lst4 (w : World) (v : Value) (xs : List R4) : Prop where
  form : ∃ A c, v = .slice A xs.length c ∧ Rd w A (cells4 xs) ∧ xs.length ≤ c ∧ c ≤ maxLen
  len : xs.length ≤ 22
theorem Lst4.of {w : World} {base e : Nat} {v : Value} {xs : List R4} (h : w.ownsRow base e 4 v xs.length (cells4 xs)) (hl : xs.length ≤ 22) : Lst4 w v xs := by
  obtain ⟨A, c, rfl⟩ := own_form h
  exact ⟨⟨A, c, rfl, Rd.of_own h, (own_capS h).1, (own_capS h).2⟩, hl⟩
theorem Lst4.below {w w' : World} {v : Value} {xs : List R4} (h : Lst4 w v xs) (hb : Below w.heap.size w w') : Lst4 w' v xs := by
  obtain ⟨⟨A, c, e, r, h1, h2⟩, hl⟩ := h
  exact ⟨⟨A, c, e, r.below hb, h1, h2⟩, hl⟩

/-- The call returns a list of N structs at most in new memory; the cursor is d bytes further at most. -/
def RetCL9 (E N p : Nat) (u : Cu) (k d : Nat) (W : World) : Ending → World → Prop := fun e w' => ∃ v xs k', e = .returned v ∧ w'.ownsRow W.heap.size E 9 v xs.length (cells9 xs) ∧ xs.length ≤ N ∧ k' ≤ k + d ∧ CurB w' p u k' ∧ W.grownBy w' (some p)
structure LRel9 (W : World) (E p : Nat) (u : Cu) (xs : List R9) (v : Value) (k : Nat) (wr : World) : Prop where
  own : wr.ownsRow W.heap.size E 9 v xs.length (cells9 xs)
  cur : CurB wr p u k
  gr : W.grownBy wr (some p)
theorem LRel9.call {W wr w1 : World} {E p k k1 : Nat} {u : Cu} {xs : List R9} {v : Value} (h : LRel9 W E p u xs v k wr) (hp : p < W.heap.size) (hc : CurB w1 p u k1) (hg : wr.grownBy w1 (some p)) : LRel9 W E p u xs v k1 w1 :=
  ⟨own_grown h.own hg hp, hc, grown_trans h.gr hg⟩
theorem LRel9.sz {W wr : World} {E p k : Nat} {u : Cu} {xs : List R9} {v : Value} (h : LRel9 W E p u xs v k wr) : W.heap.size ≤ wr.heap.size := h.gr.size
theorem LRel9.below {W wr w1 : World} {E p k : Nat} {u : Cu} {xs : List R9} {v : Value} (h : LRel9 W E p u xs v k wr) (hb : Below wr.heap.size wr w1) : LRel9 W E p u xs v k w1 :=
  ⟨own_below h.own hb, h.cur.grown hb, grown_trans h.gr (grown_below hb)⟩
/-- Another list in the place of the old one. -/
theorem LRel9.new {W wr w1 : World} {E p k : Nat} {u : Cu} {xs ys : List R9} {v v' : Value} (h : LRel9 W E p u xs v k wr) (ho : w1.ownsRow wr.heap.size E 9 v' ys.length (cells9 ys)) (hb : Below wr.heap.size wr w1) : LRel9 W E p u ys v' k w1 :=
  ⟨own_mono ho h.sz, h.cur.grown hb, grown_trans h.gr (grown_below hb)⟩
/-- One more behind the list. -/
theorem LRel9.push {W wr w1 w2 : World} {E p k : Nat} {u : Cu} {xs : List R9} {x : R9} {v v' : Value} (h : LRel9 W E p u xs v k wr) (hp : p < W.heap.size) (hb : Below wr.heap.size wr w1) (ho : w2.ownsRow W.heap.size E 9 v' (xs.length + 1) (cells9 xs ++ x.cells)) (hg : w1.grownBy w2 v.ownBlock) : LRel9 W E p u (xs ++ [x]) v' k w2 := by
  have h1 := h.below hb
  have e : cells9 (xs ++ [x]) = cells9 xs ++ x.cells := by rw [cells9_append, cells9_cons]; simp [cells9_nil]
  have hlo : ∀ b, v.ownBlock = some b → W.heap.size ≤ b := fun b hv => (h1.own.lt b hv).1
  refine ⟨by rw [e, List.length_append]; exact ho, ?_, ?_⟩
  · obtain ⟨⟨s, K⟩, r, f, b, l⟩ := h1.cur
    exact ⟨⟨s, K.grown hg (fun e => by have := hlo p e.symm; omega)⟩, rdU r f hg (fun b hb => by have := hlo b hb; omega), f, b, l⟩
  · exact ⟨hg.os.trans h1.gr.os, hg.tape.trans h1.gr.tape, hg.output.trans h1.gr.output, Nat.le_trans h1.gr.size hg.size, fun b hb hne => (hg.block b (Nat.lt_of_lt_of_le hb h1.gr.size) (fun e => by have := hlo b e.symm; omega)).trans (h1.gr.block b hb hne)⟩
/-- The list that a draw returns: it reads as xs. -/
structure Lst9 (w : World) (v : Value) (xs : List R9) : Prop where
  form : ∃ A c, v = .slice A xs.length c ∧ Rd w A (cells9 xs) ∧ xs.length ≤ c ∧ c ≤ maxLen
  len : xs.length ≤ 22
theorem Lst9.of {w : World} {base e : Nat} {v : Value} {xs : List R9} (h : w.ownsRow base e 9 v xs.length (cells9 xs)) (hl : xs.length ≤ 22) : Lst9 w v xs := by
  obtain ⟨A, c, rfl⟩ := own_form h
  exact ⟨⟨A, c, rfl, Rd.of_own h, (own_capS h).1, (own_capS h).2⟩, hl⟩
theorem Lst9.below {w w' : World} {v : Value} {xs : List R9} (h : Lst9 w v xs) (hb : Below w.heap.size w w') : Lst9 w' v xs := by
  obtain ⟨⟨A, c, e, r, h1, h2⟩, hl⟩ := h
  exact ⟨⟨A, c, e, r.below hb, h1, h2⟩, hl⟩

theorem step_appL {P : Program} {ops : Array Oper} {o : Oper} {a : Act} {w : World} {K : Act → World → Prop} {Q : Exit → Act → World → Prop} {E : Prop} (hgd : o.guard = none) (s x : Operand) (t : TypeId)
    (ho : o.op = .call { callee := .builtin .append, args := #[s, x], argTypes := #[t, t] })
    (base : Nat) (e : TypeId) (z : Value) (size bytes : Nat) (ht : P.underlying t = some (.slice e)) (hinfo : (P.info? e).map (fun i => (i.zero, i.size, i.bytes)) = some (some z, size, bytes))
    (hzs : z.cells.size = size) (hsz : 0 < size) (v : Value) (n : Nat) (xs : List Value) (hs : a.eval s = v) (hown : w.ownsRow base e size v n xs)
    (A : Option Addr) (m c : Nat) (news : List Value) (hx : a.eval x = .slice A m c) (hl : news.length = m * size) (hr : Rd w A news) (h1 : ∀ u ∈ news, u.oneCell' = true)
    (h63 : n + m ≤ maxLen) (hbytes : (n + m) * bytes ≤ 140737488355328) (hbase : base ≤ w.heap.size)
    (h : ∀ v' w', w'.ownsRow base e size v' (n + m) (xs ++ news) → w.grownBy w' v.ownBlock → (v'.ownBlock = v.ownBlock ∨ v'.ownBlock = some w.heap.size) → K (a.put o.dst v') w') :
    if Region.wanted o (yielded ops a.tmps) = true then Oper.wp P o a w K Q else E := by
  have hw : Region.wanted o (yielded ops a.tmps) = true := by simp [Region.wanted, hgd]
  rw [if_pos hw]
  exact wp_app w s x t ho base e z size bytes ht hinfo hzs hsz v n xs hs hown A m c news hx hl hr h1 h63 hbytes hbase h
/-- The call returns a list of N mails at most, all small, in new memory. -/
def RetCM (E N p : Nat) (u : Cu) (k d : Nat) (W : World) : Ending → World → Prop := fun e w' => ∃ v xs k', e = .returned v ∧ w'.ownsRow W.heap.size E 4 v xs.length (cells4 xs) ∧ xs.length ≤ N ∧ (∀ y ∈ xs, sm4 y) ∧ k' ≤ k + d ∧ CurB w' p u k' ∧ W.grownBy w' (some p)

end Go.Proofs.Ytobloedpmjkgpaa
