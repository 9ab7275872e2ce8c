/- The stock book: rows of an id and a slice of ints: how such a list reads, and its copy. -/
import Derived.Test.YtacacibpehnmgaaGreatDoorNest
import Derived.Test.YtacacibpehnmgaaGreatDoorInts
import Derived.Test.YtacacibpehnmgaaGreatDoorRise
namespace Go.Proofs.YtacacibpehnmgaaGreatDoor
set_option linter.unusedVariables false
set_option linter.unusedSimpArgs false
open Go.RowKit

structure BR where
  id : Int
  ws : List Int
/-- How many numbers a book holds. -/
def szB : List BR → Nat
  | [] => 0
  | x :: xs => 1 + x.ws.length + szB xs
/-- The list reads so. -/
def RdB (w : World) (A : Option Addr) (xs : List BR) : Prop :=
  xs = [] ∨ ∃ g o, A = some ⟨g, o, none⟩ ∧ g < w.heap.size ∧ ∀ k x, xs[k]? = some x → w.cell? ⟨g, o + k * 2, none⟩ = some (.int .i64 x.id) ∧ ∃ v, w.cell? ⟨g, o + k * 2 + 1, none⟩ = some v ∧ RdI w v x.ws
theorem RdB.below {w w' : World} {A : Option Addr} {xs : List BR} (h : RdB w A xs) (hb : Below w.heap.size w w') : RdB w' A xs := by
  rcases h with h | ⟨g, o, e, hg, hc⟩
  · exact .inl h
  · refine .inr ⟨g, o, e, Nat.lt_of_lt_of_le hg hb.size, fun k x hx => ?_⟩
    obtain ⟨h1, v, h2, h3⟩ := hc k x hx
    exact ⟨(hb.cell (p := ⟨g, _, none⟩) hg).trans h1, v, (hb.cell (p := ⟨g, _, none⟩) hg).trans h2, h3.below hb⟩
theorem RdB.alloc {w : World} {A : Option Addr} {xs : List BR} (h : RdB w A xs) (o : Obj) : RdB (w.alloc o) A xs := h.below ((Below.refl _ _).alloc (Nat.le_refl _) o)
theorem RdB.at {w : World} {A : Option Addr} {xs : List BR} (h : RdB w A xs) {k : Nat} {x : BR} (hk : xs[k]? = some x) :
    ∃ g o B c, A = some ⟨g, o, none⟩ ∧ g < w.heap.size ∧ w.cell? ⟨g, o + k * 2, none⟩ = some (.int .i64 x.id) ∧ w.cell? ⟨g, o + k * 2 + 1, none⟩ = some (.slice B x.ws.length c) ∧ x.ws.length ≤ c ∧ c ≤ maxLen ∧ Rd w B (cells1 x.ws) := by
  rcases h with h | ⟨g, o, e, hg, hc⟩
  · subst h; simp at hk
  · obtain ⟨h1, v, h2, B, c, rfl, h3, h4, h5⟩ := hc k x hk
    exact ⟨g, o, B, c, e, hg, h1, h2, h3, h4, h5⟩

/-- The cells of such a list. -/
def cellsB : List BR → List Value → List Value
  | x :: xs, v :: vs => .int .i64 x.id :: v :: cellsB xs vs
  | _, _ => []
theorem length_cellsB : ∀ {xs : List BR} {vs : List Value}, vs.length = xs.length → (cellsB xs vs).length = xs.length * 2
  | [], [], _ => rfl
  | [], _ :: _, h => by simp at h
  | _ :: _, [], h => by simp at h
  | x :: xs, v :: vs, h => by simp only [cellsB, List.length_cons]; rw [length_cellsB (by simpa using h)]; omega
theorem cellsB_append : ∀ {xs : List BR} {vs : List Value} (_ : vs.length = xs.length) (x : BR) (v : Value), cellsB (xs ++ [x]) (vs ++ [v]) = cellsB xs vs ++ [.int .i64 x.id, v]
  | [], [], _, _, _ => rfl
  | [], _ :: _, h, _, _ => by simp at h
  | _ :: _, [], h, _, _ => by simp at h
  | y :: xs, u :: vs, h, x, v => by simp only [List.cons_append, cellsB]; rw [cellsB_append (by simpa using h)]
theorem cellsB_get : ∀ {xs : List BR} {vs : List Value} {k : Nat} {x : BR} {v : Value}, xs[k]? = some x → vs[k]? = some v → (cellsB xs vs)[k * 2]? = some (.int .i64 x.id) ∧ (cellsB xs vs)[k * 2 + 1]? = some v
  | [], _, _, _, _, h, _ => by simp at h
  | _ :: _, [], _, _, _, _, h => by simp at h
  | y :: xs, u :: vs, 0, x, v, h, h' => by simp at h h'; subst h; subst h'; exact ⟨rfl, rfl⟩
  | y :: xs, u :: vs, k + 1, x, v, h, h' => by
    have := cellsB_get (k := k) (by simpa using h) (by simpa using h')
    rw [show (k + 1) * 2 = k * 2 + 1 + 1 by omega]
    exact this

/-- No two of the values have the same block. -/
def Apart (L : List Value) : Prop := ∀ (i j : Nat) (a b : Value) (k : Nat), i < j → L[i]? = some a → L[j]? = some b → a.ownBlock = some k → b.ownBlock ≠ some k
/-- A list of rows in memory of the call's own: the row and each inner row, all apart. -/
def OwnB (w : World) (lo E EI : Nat) (v : Value) (xs : List BR) (vs : List Value) : Prop :=
  vs.length = xs.length ∧ w.ownsRow lo E 2 v xs.length (cellsB xs vs) ∧ (∀ (j : Nat) (x : BR) (u : Value), xs[j]? = some x → vs[j]? = some u → w.ownsRow lo EI 1 u x.ws.length (cells1 x.ws)) ∧ Apart (v :: vs)
theorem OwnB.below {w w' : World} {lo E EI : Nat} {v : Value} {xs : List BR} {vs : List Value} (h : OwnB w lo E EI v xs vs) (hb : Below w.heap.size w w') : OwnB w' lo E EI v xs vs :=
  ⟨h.1, own_below h.2.1 hb, fun j x u hx hu => own_below (h.2.2.1 j x u hx hu) hb, h.2.2.2⟩
theorem OwnB.rd {w : World} {lo E EI c : Nat} {A : Option Addr} {xs : List BR} {vs : List Value} (h : OwnB w lo E EI (.slice A xs.length c) xs vs) : RdB w A xs := by
  obtain ⟨hl, ho, hi, _⟩ := h
  rcases Rd.of_own ho with h0 | ⟨g, o, e, hg, hc⟩
  · left
    have := length_cellsB hl
    rw [h0] at this
    exact List.eq_nil_of_length_eq_zero (by simp at this; omega)
  · refine .inr ⟨g, o, e, hg, fun k x hx => ?_⟩
    have hk : k < vs.length := by have := (List.getElem?_eq_some_iff.1 hx).1; omega
    obtain ⟨h1, h2⟩ := cellsB_get hx (List.getElem?_eq_getElem hk)
    refine ⟨hc _ _ h1, vs[k], ?_, RdI.of_own (hi k x _ hx (List.getElem?_eq_getElem hk))⟩
    have := hc _ _ h2
    rw [← Nat.add_assoc] at this
    exact this

/-! ### The numbers it holds -/

/-! ### The copy -/
/-- A row of a book, copied: its ints lie in memory of the call's own. -/
def RetBR (id : Int) (ws : List Int) (n EI : Nat) (W : World) : Ending → World → Prop := fun e w' => ∃ v, e = .returned (.agg #[.int .i64 id, v]) ∧ w'.ownsRow W.heap.size EI 1 v n (cells1 ws) ∧ Below W.heap.size W w'

theorem apart_snoc {vs : List Value} {u : Value} {B : Nat} (h : Apart vs) (h1 : ∀ (i : Nat) (a : Value) (k : Nat), vs[i]? = some a → a.ownBlock = some k → k < B) (h2 : ∀ k, u.ownBlock = some k → B ≤ k) : Apart (vs ++ [u]) := by
  intro i j a b k hij ha hb hk hbk
  have hj : j < vs.length + 1 := by have := (List.getElem?_eq_some_iff.1 hb).1; simpa using this
  rw [List.getElem?_append_left (by omega)] at ha
  rcases Nat.lt_or_ge j vs.length with hjl | hjl
  · rw [List.getElem?_append_left hjl] at hb
    exact h i j a b k hij ha hb hk hbk
  · rw [List.getElem?_append_right hjl, show j - vs.length = 0 by omega] at hb
    simp at hb; subst hb
    have := h1 i a k ha hk; have := h2 k hbk; omega
theorem apart_cons {vs : List Value} {v : Value} (h : Apart vs) (h1 : ∀ (j : Nat) (b : Value) (k : Nat), vs[j]? = some b → v.ownBlock = some k → b.ownBlock ≠ some k) : Apart (v :: vs) := by
  intro i j a b k hij ha hb hk
  cases j with
  | zero => omega
  | succ j =>
    cases i with
    | zero => simp at ha hb; subst ha; exact h1 j b k hb hk
    | succ i => exact h i j a b k (by omega) (by simpa using ha) (by simpa using hb) hk

/-- The loop's relation of toBookRowS: k rows copied. -/
def ToRelB (W : World) (E EI g n : Nat) (xs : List BR) (k : Nat) (wr : World) : Prop :=
  ∃ vs rest, vs.length = k ∧ rest.length = (n - k) * 2 ∧ wr.ownsRow W.heap.size E 2 (.slice (some ⟨g, 0, none⟩) n n) n (cellsB (xs.take k) vs ++ rest) ∧
    (∀ (j : Nat) (x : BR) (u : Value), xs[j]? = some x → vs[j]? = some u → wr.ownsRow (g + 1) EI 1 u x.ws.length (cells1 x.ws)) ∧ Apart vs ∧ Below W.heap.size W wr
theorem ToRelB.step {W wr w1 : World} {E EI g n k : Nat} {xs : List BR} {x : BR} {u : Value} (h : ToRelB W E EI g n xs k wr) (hn : xs.length = n) (hk : xs[k]? = some x) (hb : Below wr.heap.size wr w1) (hu : w1.ownsRow wr.heap.size EI 1 u x.ws.length (cells1 x.ws)) (hg : W.heap.size ≤ g) (hgw : g < wr.heap.size) :
    ToRelB W E EI g n xs (k + 1) (w1.setCells g (k * 2) [.int .i64 x.id, u]) := by
  obtain ⟨vs, rest, hvl, hr, ho, hi, hap, hB⟩ := h
  have hkn : k < n := by have := (List.getElem?_eq_some_iff.1 hk).1; omega
  have hr' : rest.length = 2 + (n - (k + 1)) * 2 := by rw [hr]; have : n - k = (n - (k + 1)) + 1 := by omega
                                                       rw [this]; omega
  obtain ⟨old, post, rfl, ho2⟩ : ∃ old post, rest = old ++ post ∧ old.length = 2 := ⟨rest.take 2, rest.drop 2, by simp, by rw [List.length_take]; omega⟩
  have htl : vs.length = (xs.take k).length := by rw [List.length_take]; omega
  obtain ⟨h1, h2⟩ := own_setCells [.int .i64 x.id, u] (own_below ho hb) (k * 2)
  have hlen : (cellsB (xs.take k) vs).length = k * 2 := by rw [length_cellsB htl, List.length_take]; congr 1; omega
  have hset := setAll_mid [.int .i64 x.id, u] (cellsB (xs.take k) vs) old post (by rw [ho2]; rfl)
  rw [hlen] at hset
  rw [hset] at h1
  have htake : cellsB (xs.take (k + 1)) (vs ++ [u]) = cellsB (xs.take k) vs ++ [.int .i64 x.id, u] := by
    rw [List.take_add_one, hk]; exact cellsB_append htl x u
  refine ⟨vs ++ [u], post, by simp [hvl], by simp [ho2] at hr'; omega, ?_, ?_, ?_, (hB.trans (hb.mono hB.size)).grown h2 (Nat.le_trans hB.size hb.size) (fun j hj => by injection hj with hj; omega)⟩
  · rw [htake, List.append_assoc]; exact h1
  · intro j y z hy hz
    rcases Nat.lt_or_ge j vs.length with hjl | hjl
    · rw [List.getElem?_append_left hjl] at hz
      refine (own_below (hi j y z hy hz) hb).kept h2 (.inr fun e => ?_)
      have := ((hi j y z hy hz).lt g e).1; omega
    · have hj1 : j < vs.length + 1 := by have := (List.getElem?_eq_some_iff.1 hz).1; simpa using this
      obtain rfl : j = k := by omega
      rw [List.getElem?_append_right hjl, show j - vs.length = 0 by omega] at hz
      simp at hz; subst hz
      rw [hk] at hy; injection hy with hy; subst hy
      refine (own_mono hu (by omega)).kept h2 (.inr fun e => ?_)
      have := (hu.lt g e).1; omega
  · refine apart_snoc hap (fun i a q ha hq => ?_) (fun q hq => (hu.lt q hq).1)
    have hil : i < xs.length := by have := (List.getElem?_eq_some_iff.1 ha).1; omega
    exact ((hi i xs[i] a (List.getElem?_eq_getElem hil) ha).lt q hq).2

theorem info34 : (Tryz.prog.info? 34).map (fun i => (i.zero, i.size, i.bytes)) = some (some (.agg #[.int .i64 0, .slice none 0 0]), 2, 32) := by kernel_rfl
theorem size34 : (Tryz.prog.info? 34).map (·.size) = some 2 := by kernel_rfl
def RetB (E EI : Nat) (xs : List BR) (W : World) : Ending → World → Prop := fun e w' => ∃ v vs, e = .returned v ∧ OwnB w' W.heap.size E EI v xs vs ∧ Below W.heap.size W w'

end Go.Proofs.YtacacibpehnmgaaGreatDoor
