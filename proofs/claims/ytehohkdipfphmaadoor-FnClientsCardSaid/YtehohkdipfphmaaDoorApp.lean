/- Approvals: rows of six cells, two of them slices of ints: how such a list reads, and its copy. -/
import Derived.Test.YtehohkdipfphmaaDoorNest
import Derived.Test.YtehohkdipfphmaaDoorInts
import Derived.Test.YtehohkdipfphmaaDoorRise
import Derived.Test.YtehohkdipfphmaaDoorApart
namespace Go.Proofs.YtehohkdipfphmaaDoor
set_option linter.unusedVariables false
set_option linter.unusedSimpArgs false
open Go.RowKit

/-- A block and its cells. -/
structure Blk (w : World) (q : Nat) (cs : List Value) : Prop where
  cell : ∀ (i : Nat) (v : Value), cs[i]? = some v → w.cell? ⟨q, i, none⟩ = some v
  fr : ∀ i : Nat, i < cs.length → w.frozen? ⟨q, i, none⟩ = false
  lt : q < w.heap.size
theorem Blk.below {w w' : World} {q B : Nat} {cs : List Value} (h : Blk w q cs) (hb : Below B w w') (hq : q < B) : Blk w' q cs :=
  ⟨fun i v hi => (hb.cell (p := ⟨q, i, none⟩) hq).trans (h.cell i v hi), fun i hi => (hb.frozen (p := ⟨q, i, none⟩) hq).trans (h.fr i hi), Nat.lt_of_lt_of_le h.lt hb.size⟩
theorem Blk.new (w : World) (cs : List Value) (t : TypeId) : Blk (w.alloc (.cells cs.toArray t)) w.heap.size cs :=
  ⟨fun i v hi => (World.cell?_alloc_at _ _ _ _ rfl).trans (by simpa using hi), fun i hi => World.frozen?_alloc_at _ _ _ _ rfl, by simp⟩
theorem Blk.alloc {w : World} {q : Nat} {cs : List Value} (h : Blk w q cs) (o : Obj) : Blk (w.alloc o) q cs := h.below ((Below.refl w.heap.size w).alloc (Nat.le_refl _) o) h.lt
theorem Blk.set {w : World} {q i : Nat} {cs : List Value} (h : Blk w q cs) (hi : i < cs.length) (v : Value) : Blk (w.setCell ⟨q, i, none⟩ v) q (cs.set i v) := by
  refine ⟨fun j u hj => ?_, fun j hj => by simp only [World.frozen?_setCell]; exact h.fr j (by simpa using hj), by simpa using h.lt⟩
  by_cases e : i = j
  · subst e
    rw [List.getElem?_set_self hi] at hj; injection hj with hj; subst hj
    exact World.cell?_setCell_same' _ _ _ (by rw [h.cell i _ (List.getElem?_eq_getElem hi)]; rfl)
  · rw [List.getElem?_set_ne e] at hj
    rw [World.cell?_setCell_other _ _ _ _ (by simp <;> omega)]
    exact h.cell j u hj
theorem Blk.other {w : World} {q g i : Nat} {cs : List Value} (h : Blk w q cs) (hq : q ≠ g) (v : Value) : Blk (w.setCell ⟨g, i, none⟩ v) q cs :=
  ⟨fun j u hj => (World.cell?_setCell_other _ _ _ _ (by simp <;> omega)).trans (h.cell j u hj), fun j hj => by simp only [World.frozen?_setCell]; exact h.fr j hj, by simpa using h.lt⟩

structure AR where
  id : Int
  client : ByteArray
  sent : Int
  items : List Int
  kept : List Int
  back : Int
/-- The list reads so. -/
def RdA (w : World) (A : Option Addr) (xs : List AR) : Prop :=
  xs = [] ∨ ∃ g o, A = some ⟨g, o, none⟩ ∧ g < w.heap.size ∧ ∀ k x, xs[k]? = some x → x.client.size ≤ maxLen ∧ w.cell? ⟨g, o + k * 6, none⟩ = some (.int .i64 x.id) ∧ w.cell? ⟨g, o + k * 6 + 1, none⟩ = some (.string x.client) ∧ w.cell? ⟨g, o + k * 6 + 2, none⟩ = some (.int .i64 x.sent) ∧
    (∃ v, w.cell? ⟨g, o + k * 6 + 3, none⟩ = some v ∧ RdI w v x.items) ∧ (∃ v, w.cell? ⟨g, o + k * 6 + 4, none⟩ = some v ∧ RdI w v x.kept) ∧ w.cell? ⟨g, o + k * 6 + 5, none⟩ = some (.int .i64 x.back)
theorem RdA.below {w w' : World} {A : Option Addr} {xs : List AR} (h : RdA w A xs) (hb : Below w.heap.size w w') : RdA w' A xs := by
  rcases h with h | ⟨g, o, e, hg, hc⟩
  · exact .inl h
  · refine .inr ⟨g, o, e, Nat.lt_of_lt_of_le hg hb.size, fun k x hx => ?_⟩
    obtain ⟨hs, h0, h1, h2, ⟨u, h3, r3⟩, ⟨v, h4, r4⟩, h5⟩ := hc k x hx
    have hc := fun i => hb.cell (p := ⟨g, i, none⟩) hg
    exact ⟨hs, (hc _).trans h0, (hc _).trans h1, (hc _).trans h2, ⟨u, (hc _).trans h3, r3.below hb⟩, ⟨v, (hc _).trans h4, r4.below hb⟩, (hc _).trans h5⟩
theorem RdA.alloc {w : World} {A : Option Addr} {xs : List AR} (h : RdA w A xs) (o : Obj) : RdA (w.alloc o) A xs := h.below ((Below.refl _ _).alloc (Nat.le_refl _) o)
/-- What stands in a row. -/
structure RowA (w : World) (g o : Nat) (B : Option Addr) (c : Nat) (D : Option Addr) (d : Nat) (x : AR) : Prop where
  lt : g < w.heap.size
  cs : x.client.size ≤ maxLen
  c0 : w.cell? ⟨g, o, none⟩ = some (.int .i64 x.id)
  c1 : w.cell? ⟨g, o + 1, none⟩ = some (.string x.client)
  c2 : w.cell? ⟨g, o + 2, none⟩ = some (.int .i64 x.sent)
  c3 : w.cell? ⟨g, o + 3, none⟩ = some (.slice B x.items.length c)
  c4 : w.cell? ⟨g, o + 4, none⟩ = some (.slice D x.kept.length d)
  c5 : w.cell? ⟨g, o + 5, none⟩ = some (.int .i64 x.back)
  b1 : x.items.length ≤ c
  b2 : c ≤ maxLen
  d1 : x.kept.length ≤ d
  d2 : d ≤ maxLen
  rB : Rd w B (cells1 x.items)
  rD : Rd w D (cells1 x.kept)
theorem RdA.at {w : World} {A : Option Addr} {xs : List AR} (h : RdA w A xs) {k : Nat} {x : AR} (hk : xs[k]? = some x) :
    ∃ g o B c D d, A = some ⟨g, o, none⟩ ∧ RowA w g (o + k * 6) B c D d x := by
  rcases h with h | ⟨g, o, e, hg, hc⟩
  · subst h; simp at hk
  · obtain ⟨hs, h0, h1, h2, ⟨u, h3, B, c, rfl, b1, b2, rB⟩, ⟨v, h4, D, d, rfl, d1, d2, rD⟩, h5⟩ := hc k x hk
    exact ⟨g, o, B, c, D, d, e, hg, hs, h0, h1, h2, h3, h4, h5, b1, b2, d1, d2, rB, rD⟩
theorem RowA.below {w w' : World} {g o : Nat} {B D : Option Addr} {c d : Nat} {x : AR} (h : RowA w g o B c D d x) (hb : Below w.heap.size w w') : RowA w' g o B c D d x := by
  have hc := fun i => hb.cell (p := ⟨g, i, none⟩) h.lt
  exact ⟨Nat.lt_of_lt_of_le h.lt hb.size, h.cs, (hc _).trans h.c0, (hc _).trans h.c1, (hc _).trans h.c2, (hc _).trans h.c3, (hc _).trans h.c4, (hc _).trans h.c5, h.b1, h.b2, h.d1, h.d2, h.rB.below hb, h.rD.below hb⟩

/-- The cells of such a list. -/
def cellsA : List AR → List Value → List Value
  | x :: xs, a :: b :: vs => .int .i64 x.id :: .string x.client :: .int .i64 x.sent :: a :: b :: .int .i64 x.back :: cellsA xs vs
  | _, _ => []
/-- The inner rows. -/
def innA : List AR → List (List Int)
  | [] => []
  | x :: xs => x.items :: x.kept :: innA xs
theorem innA_len : ∀ xs : List AR, (innA xs).length = 2 * xs.length
  | [] => rfl
  | x :: xs => by simp only [innA, List.length_cons, innA_len xs]; omega
theorem innA_get : ∀ {xs : List AR} {k : Nat} {x : AR}, xs[k]? = some x → (innA xs)[2 * k]? = some x.items ∧ (innA xs)[2 * k + 1]? = some x.kept
  | [], _, _, h => by simp at h
  | y :: xs, 0, x, h => by simp at h; subst h; exact ⟨rfl, rfl⟩
  | y :: xs, k + 1, x, h => by
    have := innA_get (xs := xs) (k := k) (by simpa using h)
    rw [show 2 * (k + 1) = 2 * k + 1 + 1 by omega]
    exact this
theorem innA_app : ∀ (xs : List AR) (x : AR), innA (xs ++ [x]) = innA xs ++ [x.items, x.kept]
  | [], _ => rfl
  | y :: xs, x => by simp only [List.cons_append, innA, innA_app xs x]
theorem length_cellsA : ∀ {xs : List AR} {vs : List Value}, vs.length = 2 * xs.length → (cellsA xs vs).length = xs.length * 6
  | [], vs, h => by simp only [cellsA]; rfl
  | _ :: xs, [], h => by simp at h
  | _ :: xs, [_], h => by simp at h; omega
  | x :: xs, a :: b :: vs, h => by simp only [cellsA, List.length_cons]; rw [length_cellsA (by simp only [List.length_cons] at h; omega)]; omega
theorem cellsA_append : ∀ {xs : List AR} {vs : List Value} (_ : vs.length = 2 * xs.length) (x : AR) (a b : Value), cellsA (xs ++ [x]) (vs ++ [a, b]) = cellsA xs vs ++ [.int .i64 x.id, .string x.client, .int .i64 x.sent, a, b, .int .i64 x.back]
  | [], [], _, _, _, _ => rfl
  | [], _ :: _, h, _, _, _ => by simp at h
  | _ :: xs, [], h, _, _, _ => by simp at h
  | _ :: xs, [_], h, _, _, _ => by simp at h; omega
  | y :: xs, u :: v :: vs, h, x, a, b => by simp only [List.cons_append, cellsA]; rw [cellsA_append (by simp only [List.length_cons] at h; omega)]
theorem cellsA_get : ∀ {xs : List AR} {vs : List Value} {k : Nat} {x : AR} {a b : Value}, xs[k]? = some x → vs[2 * k]? = some a → vs[2 * k + 1]? = some b →
    (cellsA xs vs)[k * 6]? = some (.int .i64 x.id) ∧ (cellsA xs vs)[k * 6 + 1]? = some (.string x.client) ∧ (cellsA xs vs)[k * 6 + 2]? = some (.int .i64 x.sent) ∧ (cellsA xs vs)[k * 6 + 3]? = some a ∧ (cellsA xs vs)[k * 6 + 4]? = some b ∧ (cellsA xs vs)[k * 6 + 5]? = some (.int .i64 x.back)
  | [], _, _, _, _, _, h, _, _ => by simp at h
  | _ :: _, [], _, _, _, _, _, h, _ => by simp at h
  | _ :: _, [_], k, _, _, _, _, _, h => by simp at h
  | y :: xs, u :: v :: vs, 0, x, a, b, h, h1, h2 => by simp at h h1 h2; subst h; subst h1; subst h2; exact ⟨rfl, rfl, rfl, rfl, rfl, rfl⟩
  | y :: xs, u :: v :: vs, k + 1, x, a, b, h, h1, h2 => by
    rw [show 2 * (k + 1) = 2 * k + 1 + 1 by omega] at h1 h2
    have := cellsA_get (xs := xs) (vs := vs) (k := k) (a := a) (b := b) (by simpa using h) (by simpa using h1) (by simpa using h2)
    rw [show (k + 1) * 6 = k * 6 + 6 by omega]
    exact this

/-- A list of approvals in memory of the call's own: the row and each inner row, all apart. -/
def OwnA (w : World) (lo E EI : Nat) (v : Value) (xs : List AR) (vs : List Value) : Prop :=
  vs.length = 2 * xs.length ∧ w.ownsRow lo E 6 v xs.length (cellsA xs vs) ∧ (∀ (j : Nat) (zs : List Int) (u : Value), (innA xs)[j]? = some zs → vs[j]? = some u → w.ownsRow lo EI 1 u zs.length (cells1 zs)) ∧ Apart (v :: vs) ∧ ∀ x ∈ xs, x.client.size ≤ maxLen
theorem OwnA.below {w w' : World} {lo E EI : Nat} {v : Value} {xs : List AR} {vs : List Value} (h : OwnA w lo E EI v xs vs) (hb : Below w.heap.size w w') : OwnA w' lo E EI v xs vs :=
  ⟨h.1, own_below h.2.1 hb, fun j x u hx hu => own_below (h.2.2.1 j x u hx hu) hb, h.2.2.2⟩
theorem OwnA.at {w : World} {lo E EI k : Nat} {v : Value} {xs : List AR} {vs : List Value} {x : AR} (h : OwnA w lo E EI v xs vs) (hx : xs[k]? = some x) :
    ∃ a b, vs[2 * k]? = some a ∧ vs[2 * k + 1]? = some b ∧ w.ownsRow lo EI 1 a x.items.length (cells1 x.items) ∧ w.ownsRow lo EI 1 b x.kept.length (cells1 x.kept) := by
  have hk := (List.getElem?_eq_some_iff.1 hx).1
  have h1 : 2 * k < vs.length := by have := h.1; omega
  have h2 : 2 * k + 1 < vs.length := by have := h.1; omega
  obtain ⟨i1, i2⟩ := innA_get hx
  exact ⟨vs[2 * k], vs[2 * k + 1], List.getElem?_eq_getElem h1, List.getElem?_eq_getElem h2, h.2.2.1 _ _ _ i1 (List.getElem?_eq_getElem h1), h.2.2.1 _ _ _ i2 (List.getElem?_eq_getElem h2)⟩
theorem OwnA.rd {w : World} {lo E EI c : Nat} {A : Option Addr} {xs : List AR} {vs : List Value} (h : OwnA w lo E EI (.slice A xs.length c) xs vs) : RdA w A xs := by
  rcases Rd.of_own h.2.1 with h0 | ⟨g, o, e, hg, hc⟩
  · left
    have := length_cellsA h.1
    rw [h0] at this
    exact List.eq_nil_of_length_eq_zero (by simp at this; omega)
  · refine .inr ⟨g, o, e, hg, fun k x hx => ?_⟩
    obtain ⟨a, b, ha, hb, oa, ob⟩ := h.at hx
    obtain ⟨g0, g1, g2, g3, g4, g5⟩ := cellsA_get hx ha hb
    refine ⟨h.2.2.2.2 x (List.mem_of_getElem? hx), hc _ _ g0, ?_, ?_, ⟨a, ?_, RdI.of_own oa⟩, ⟨b, ?_, RdI.of_own ob⟩, ?_⟩
    · have := hc _ _ g1; rw [← Nat.add_assoc] at this; exact this
    · have := hc _ _ g2; rw [← Nat.add_assoc] at this; exact this
    · have := hc _ _ g3; rw [← Nat.add_assoc] at this; exact this
    · have := hc _ _ g4; rw [← Nat.add_assoc] at this; exact this
    · have := hc _ _ g5; rw [← Nat.add_assoc] at this; exact this
theorem OwnA.rd2 {w : World} {lo E EI n c : Nat} {A : Option Addr} {xs : List AR} {vs : List Value} (h : OwnA w lo E EI (.slice A n c) xs vs) : RdA w A xs := by
  obtain ⟨A', c', e⟩ := own_form h.2.1
  injection e with e1 e2 e3
  subst e2
  exact h.rd

/-- Small enough. -/
def smA (x : AR) : Prop := x.client.size ≤ 1048576 ∧ x.items.length ≤ 1048576 ∧ x.kept.length ≤ 1048576

/-! ### The copy -/
/-- An approval, copied: its ints lie in memory of the call's own. -/
def RetAR (x : AR) (EI : Nat) (W : World) : Ending → World → Prop := fun e w' => ∃ u v, e = .returned (.agg #[.int .i64 x.id, .string x.client, .int .i64 x.sent, u, v, .int .i64 x.back]) ∧ w'.ownsRow W.heap.size EI 1 u x.items.length (cells1 x.items) ∧ w'.ownsRow W.heap.size EI 1 v x.kept.length (cells1 x.kept) ∧ (∀ k, u.ownBlock = some k → v.ownBlock = some k → False) ∧ Below W.heap.size W w'


/-- The loop's relation of toApprovalS: k rows copied. -/
def ToRelA (W : World) (E EI g n : Nat) (xs : List AR) (k : Nat) (wr : World) : Prop :=
  ∃ vs rest, vs.length = 2 * k ∧ rest.length = (n - k) * 6 ∧ wr.ownsRow W.heap.size E 6 (.slice (some ⟨g, 0, none⟩) n n) n (cellsA (xs.take k) vs ++ rest) ∧
    (∀ (j : Nat) (zs : List Int) (u : Value), (innA xs)[j]? = some zs → vs[j]? = some u → wr.ownsRow (g + 1) EI 1 u zs.length (cells1 zs)) ∧ Apart vs ∧ Below W.heap.size W wr
theorem apart_snoc2 {vs : List Value} {u v : Value} {B : Nat} (h : Apart vs) (h1 : ∀ (i : Nat) (a : Value) (k : Nat), vs[i]? = some a → a.ownBlock = some k → k < B) (h2 : ∀ k, u.ownBlock = some k → B ≤ k) (h3 : ∀ k, v.ownBlock = some k → B ≤ k) (h4 : ∀ k, u.ownBlock = some k → v.ownBlock = some k → False) : Apart (vs ++ [u, v]) := by
  have e : vs ++ [u, v] = (vs ++ [u]) ++ [v] := by simp
  rw [e]
  have hu := apart_snoc h h1 h2
  refine apart_of fun i j a b k hij ha hb hk hbk => ?_
  have key : ∀ (i j : Nat) (a b : Value), i < j → ((vs ++ [u]) ++ [v])[i]? = some a → ((vs ++ [u]) ++ [v])[j]? = some b → a.ownBlock = some k → b.ownBlock = some k → False := by
    intro i j a b hij ha hb hk hbk
    have hj : j < vs.length + 2 := by have := (List.getElem?_eq_some_iff.1 hb).1; simpa using this
    rw [List.getElem?_append_left (by simp; omega)] at ha
    rcases Nat.lt_or_ge j (vs.length + 1) with hjl | hjl
    · rw [List.getElem?_append_left (by simp; omega)] at hb
      exact hu i j a b k hij ha hb hk hbk
    · rw [List.getElem?_append_right (by simp; omega), show j - (vs ++ [u]).length = 0 by simp; omega] at hb
      simp at hb; subst hb
      rcases Nat.lt_or_ge i vs.length with hil | hil
      · rw [List.getElem?_append_left hil] at ha
        have := h1 i a k ha hk; have := h3 k hbk; omega
      · rw [List.getElem?_append_right hil, show i - vs.length = 0 by omega] at ha
        simp at ha; subst ha
        exact h4 k hk hbk
  rcases Nat.lt_or_gt_of_ne hij with h | h
  · exact key i j a b h ha hb hk hbk
  · exact key j i b a h hb ha hbk hk
set_option maxHeartbeats 400000 in
theorem ToRelA.step {W wr w1 : World} {E EI g n k : Nat} {xs : List AR} {x : AR} {u v : Value} (h : ToRelA W E EI g n xs k wr) (hn : xs.length = n) (hk : xs[k]? = some x) (hb : Below wr.heap.size wr w1) (hu : w1.ownsRow wr.heap.size EI 1 u x.items.length (cells1 x.items)) (hv : w1.ownsRow wr.heap.size EI 1 v x.kept.length (cells1 x.kept))
    (hne : ∀ k, u.ownBlock = some k → v.ownBlock = some k → False) (hg : W.heap.size ≤ g) (hgw : g < wr.heap.size) :
    ToRelA W E EI g n xs (k + 1) (w1.setCells g (k * 6) [.int .i64 x.id, .string x.client, .int .i64 x.sent, u, v, .int .i64 x.back]) := by
  obtain ⟨vs, rest, hvl, hr, ho, hi, hap, hB⟩ := h
  have hkn : k < n := by have := (List.getElem?_eq_some_iff.1 hk).1; omega
  have hr' : rest.length = 6 + (n - (k + 1)) * 6 := by rw [hr]; have : n - k = (n - (k + 1)) + 1 := by omega
                                                       rw [this]; omega
  obtain ⟨old, post, rfl, ho2⟩ : ∃ old post, rest = old ++ post ∧ old.length = 6 := ⟨rest.take 6, rest.drop 6, by simp, by rw [List.length_take]; omega⟩
  have htl : vs.length = 2 * (xs.take k).length := by rw [List.length_take]; omega
  obtain ⟨h1, h2⟩ := own_setCells [.int .i64 x.id, .string x.client, .int .i64 x.sent, u, v, .int .i64 x.back] (own_below ho hb) (k * 6)
  have hlen : (cellsA (xs.take k) vs).length = k * 6 := by rw [length_cellsA htl, List.length_take]; congr 1; omega
  have hset := setAll_mid [.int .i64 x.id, .string x.client, .int .i64 x.sent, u, v, .int .i64 x.back] (cellsA (xs.take k) vs) old post (by rw [ho2]; rfl)
  rw [hlen] at hset
  rw [hset] at h1
  have htake : cellsA (xs.take (k + 1)) (vs ++ [u, v]) = cellsA (xs.take k) vs ++ [.int .i64 x.id, .string x.client, .int .i64 x.sent, u, v, .int .i64 x.back] := by
    rw [List.take_add_one, hk]; exact cellsA_append htl x u v
  obtain ⟨i1, i2⟩ := innA_get hk
  refine ⟨vs ++ [u, v], post, by simp [hvl]; omega, by simp [ho2] at hr'; omega, ?_, ?_, ?_, (hB.trans (hb.mono hB.size)).grown h2 (Nat.le_trans hB.size hb.size) (fun j hj => by injection hj with hj; omega)⟩
  · rw [htake, List.append_assoc]; exact h1
  · intro j y z hy hz
    rcases Nat.lt_or_ge j vs.length with hjl | hjl
    · rw [List.getElem?_append_left hjl] at hz
      refine (own_below (hi j y z hy hz) hb).kept h2 (.inr fun e => ?_)
      have := ((hi j y z hy hz).lt g e).1; omega
    · have hj2 : j < vs.length + 2 := by have := (List.getElem?_eq_some_iff.1 hz).1; simpa using this
      rw [List.getElem?_append_right hjl] at hz
      rcases Nat.lt_or_ge j (vs.length + 1) with hj1 | hj1
      · obtain rfl : j = 2 * k := by omega
        rw [show 2 * k - vs.length = 0 by omega] at hz
        simp at hz; subst hz
        obtain rfl : x.items = y := Option.some.inj (i1.symm.trans hy)
        refine (own_mono hu (by omega)).kept h2 (.inr fun e => ?_)
        have := (hu.lt g e).1; omega
      · obtain rfl : j = 2 * k + 1 := by omega
        rw [show 2 * k + 1 - vs.length = 1 by omega] at hz
        simp at hz; subst hz
        obtain rfl : x.kept = y := Option.some.inj (i2.symm.trans hy)
        refine (own_mono hv (by omega)).kept h2 (.inr fun e => ?_)
        have := (hv.lt g e).1; omega
  · refine apart_snoc2 hap (fun i a q ha hq => ?_) (fun q hq => (hu.lt q hq).1) (fun q hq => (hv.lt q hq).1) hne
    have hil : i < (innA xs).length := by have := (List.getElem?_eq_some_iff.1 ha).1; rw [innA_len]; omega
    exact ((hi i (innA xs)[i] a (List.getElem?_eq_getElem hil) ha).lt q hq).2

theorem info34 : (Tryd.prog.info? 34).map (fun i => (i.zero, i.size, i.bytes)) = some (some (.agg #[.int .i64 0, .string ⟨#[]⟩, .int .i64 0, .slice none 0 0, .slice none 0 0, .int .i64 0]), 6, 88) := by kernel_rfl
theorem size34 : (Tryd.prog.info? 34).map (·.size) = some 6 := by kernel_rfl
def RetA (E EI : Nat) (xs : List AR) (W : World) : Ending → World → Prop := fun e w' => ∃ v vs, e = .returned v ∧ OwnA w' W.heap.size E EI v xs vs ∧ Below W.heap.size W w'

end Go.Proofs.YtehohkdipfphmaaDoor
