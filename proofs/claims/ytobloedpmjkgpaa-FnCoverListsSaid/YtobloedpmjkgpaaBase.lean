/- Words for calls and drawn regions that only make new memory: a contract 'Ret v w' (returns v, what was there is as it was); the lexical walk of a drawn region in the class of worlds that keep what was there; slices that read as lists; rows of the call's own. -/
import Derived.WalkKit
import Derived.WalkSpells
import Derived.WalkLawsBesides
import Derived.BigQuiet
import Derived.BigGuardPart
import Derived.Lib.Hide
import Derived.Deep.MidRow
import Derived.Deep.DeepFit
import Derived.Deep.DeepMust
import Derived.Deep.DeepCutAuto
import Derived.Laws.OwnMore
import Derived.Laws.MakeOwn
import Derived.Maps.AppendAt
import Derived.Deep.AppendLies
import Derived.Laws.AppendOwnNone
namespace Go.Proofs.Ytobloedpmjkgpaa
set_option linter.unusedVariables false
set_option linter.unusedSimpArgs false
open Go.RowKit

/-- The call returns v; all blocks that were there are as they were. -/
def Ret (v : Value) (W : World) : Ending → World → Prop := fun e w' => e = .returned v ∧ Below W.heap.size W w'
/-- The call returns v and leaves the very world. -/
def RetS (v : Value) (W : World) : Ending → World → Prop := fun e w' => e = .returned v ∧ W = w'
/-- The call returns a slice value that owns the cells cs, in new memory. -/
def RetOwn (E size n : Nat) (cs : List Value) (W : World) : Ending → World → Prop := fun e w' => ∃ v, e = .returned v ∧ w'.ownsRow W.heap.size E size v n cs ∧ Below W.heap.size W w'
/-- Likewise, with a Bool behind it. -/
def RetOwnB (E size n : Nat) (cs : List Value) (b : Bool) (W : World) : Ending → World → Prop := fun e w' => ∃ v, e = .returned (.tuple #[v, .bool b]) ∧ w'.ownsRow W.heap.size E size v n cs ∧ Below W.heap.size W w'
/-- Likewise, with an int and a Bool behind it. -/
def RetOwnIB (E size n : Nat) (cs : List Value) (i : Int) (b : Bool) (W : World) : Ending → World → Prop := fun e w' => ∃ v, e = .returned (.tuple #[v, .int .i64 i, .bool b]) ∧ w'.ownsRow W.heap.size E size v n cs ∧ Below W.heap.size W w'

/-! ### A drawn region, walked in the order of the text, in every world that keeps what was there -/
def Lat (B : Nat) (w0 : World) := { u : World // Below B w0 u }
def Lat.w {B : Nat} {w0 : World} (u : Lat B w0) : World := u.1
instance {B : Nat} {w0 : World} : Nonempty (Lat B w0) := ⟨⟨w0, Below.refl _ _⟩⟩
theorem Lat.below {B : Nat} {w0 : World} (u : Lat B w0) : Below B w0 u.w := u.2
theorem Lat.cell {B : Nat} {w0 : World} (u : Lat B w0) (b o : Nat) (h : b < B) : u.w.cell? ⟨b, o, none⟩ = w0.cell? ⟨b, o, none⟩ := u.2.cell (p := ⟨b, o, none⟩) h

theorem wp_region_lat {P : Program} {id : Nat} {Q : Exit → Act → World → Prop} {a : Act} {w : World} {l : List Oper} (B : Nat) (hm : P.follows .mixedOrders = true) (hB : Region.lexB .any l.toArray = true)
    (h : wpQuiet P l.toArray (fun w' => ∃ u : Lat B w, w' = u.w) (fun a' => ∀ w', Below B w w' → Q .normal a' w') l a) : (Code.region id l.toArray true).wp P Q a w :=
  wp_region_quiet (C := fun w' => ∃ u : Lat B w, w' = u.w) hm hB ⟨⟨w.drew, (Below.refl _ _).drew⟩, rfl⟩ (by
    have e : (fun a' => ∀ w', Below B w w' → Q .normal a' w') = (fun a' => ∀ w', (∃ u : Lat B w, w' = u.w) → Q .normal a' w') := by
      funext a'
      apply propext
      constructor
      · rintro h w' ⟨u, rfl⟩; exact h _ u.below
      · intro h w' hb; exact h w' ⟨⟨w', hb⟩, rfl⟩
    rw [e] at h
    simpa using h)

theorem lat_call {P : Program} {f : FuncId} {args : Array Value} {B : Nat} {w0 : World} {v : Value} (u : Lat B w0) (hB : B ≤ w0.heap.size) (h : Calls P f args u.w (Ret v u.w)) :
    Calls P f args u.w fun e w'' => e = .returned v ∧ ∃ u' : Lat B w0, w'' = u'.w :=
  h.mono fun _ w'' hh => ⟨hh.1, ⟨w'', u.below.trans (hh.2.mono (Nat.le_trans hB u.below.size))⟩, rfl⟩
theorem lat_same {P : Program} {f : FuncId} {args : Array Value} {B : Nat} {w0 : World} {v : Value} (u : Lat B w0) (h : Calls P f args u.w fun e w' => e = .returned v ∧ u.w = w') :
    Calls P f args u.w fun e w'' => e = .returned v ∧ ∃ u' : Lat B w0, w'' = u'.w :=
  h.mono fun _ _ hh => ⟨hh.1, u, hh.2.symm⟩

/-- What was there reads as it did, as two rules of the walk. -/
theorem bcell {W w1 : World} {B : Nat} (hb : Below B W w1) : (∀ b o, b < B → w1.cell? ⟨b, o, none⟩ = W.cell? ⟨b, o, none⟩) ∧ (∀ b o, b < B → w1.frozen? ⟨b, o, none⟩ = W.frozen? ⟨b, o, none⟩) :=
  ⟨fun b o h => hb.cell (p := ⟨b, o, none⟩) h, fun b o h => hb.frozen (p := ⟨b, o, none⟩) h⟩

theorem ret_int {k : IntKind} {a b : Int} (h : a = b) : Ending.returned (.int k a) = .returned (.int k b) := by rw [h]
theorem ret_bool {a b : Bool} (h : a = b) : Ending.returned (.bool a) = .returned (.bool b) := by rw [h]

theorem ret_ib {k : IntKind} {a b : Int} {c d : Bool} (h : a = b) (g : c = d) : Ending.returned (.tuple #[.int k a, .bool c]) = .returned (.tuple #[.int k b, .bool d]) := by rw [h, g]

/-! ### A slice that reads as cells -/
def Rd (w : World) (A : Option Addr) (cs : List Value) : Prop := cs = [] ∨ ∃ g o, A = some ⟨g, o, none⟩ ∧ g < w.heap.size ∧ w.rangeAt g o cs

theorem Rd.below {w w' : World} {A : Option Addr} {cs : List Value} (h : Rd w A cs) (hb : Below w.heap.size w w') : Rd w' A cs := by
  rcases h with h | ⟨g, o, h1, h2, h3⟩
  · exact .inl h
  · exact .inr ⟨g, o, h1, Nat.lt_of_lt_of_le h2 hb.size, fun j v hv => (hb.cell (p := ⟨g, o + j, none⟩) h2).trans (h3 j v hv)⟩
theorem Rd.below_of {w0 w w' : World} {A : Option Addr} {cs : List Value} (h : Rd w A cs) (hb : Below w0.heap.size w w') (hs : w.heap.size ≤ w0.heap.size) : Rd w' A cs := h.below (hb.mono hs)
theorem Rd.alloc {w : World} {A : Option Addr} {cs : List Value} (h : Rd w A cs) (o : Obj) : Rd (w.alloc o) A cs := h.below ((Below.refl _ _).alloc (Nat.le_refl _) o)
theorem Rd.drew {w : World} {A : Option Addr} {cs : List Value} (h : Rd w A cs) : Rd w.drew A cs := h
theorem Rd.drewN {w : World} {A : Option Addr} {cs : List Value} (h : Rd w A cs) (n : Nat) : Rd (w.drewN n) A cs := h
theorem Rd.of_own {w : World} {base e size n c : Nat} {A : Option Addr} {cs : List Value} (h : w.ownsRow base e size (.slice A n c) n cs) : Rd w A cs := by
  rcases h.2 with ⟨h', h0⟩ | ⟨g, cap, cur, h', _, hg, _, _, _, ht⟩
  · left; have := h.1; rw [h0] at this; simp at this; exact this
  · right
    injection h' with h1 _ _
    refine ⟨g, 0, h1, (Array.getElem?_eq_some_iff.1 hg).1, fun j v hv => ?_⟩
    have := h.cells (g := g) (by rw [h1]; rfl) j v hv
    rw [Addr.add_mid] at this
    exact this
theorem Rd.prefix_ {w : World} {A : Option Addr} {cs ds : List Value} (h : Rd w A (cs ++ ds)) : Rd w A cs := by
  rcases h with h | ⟨g, o, h1, h2, h3⟩
  · left; simp at h; exact h.1
  · exact .inr ⟨g, o, h1, h2, fun j v hv => h3 j v (by rw [List.getElem?_append_left (List.getElem?_eq_some_iff.1 hv).1]; exact hv)⟩

/-! ### Own rows carried along -/
theorem own_below {w w' : World} {base e size n : Nat} {v : Value} {cs : List Value} (h : w.ownsRow base e size v n cs) (hb : Below w.heap.size w w') : w'.ownsRow base e size v n cs := by
  refine ⟨h.1, ?_⟩
  rcases h.2 with h2 | ⟨g, cap, cur, hv, hg, hh, r⟩
  · exact .inl h2
  · exact .inr ⟨g, cap, cur, hv, hg, (hb.block g (Array.getElem?_eq_some_iff.1 hh).1).trans hh, r⟩
theorem own_mono {w : World} {base base' e size n : Nat} {v : Value} {cs : List Value} (h : w.ownsRow base e size v n cs) (hb : base' ≤ base) : w.ownsRow base' e size v n cs := by
  refine ⟨h.1, ?_⟩
  rcases h.2 with h2 | ⟨g, cap, cur, hv, hg, r⟩
  · exact .inl h2
  · exact .inr ⟨g, cap, cur, hv, Nat.le_trans hb hg, r⟩
/-- What an owned row is: nil or at the head of a block of its own. -/
theorem own_form {w : World} {base e size n : Nat} {v : Value} {cs : List Value} (h : w.ownsRow base e size v n cs) : ∃ A c, v = .slice A n c := by
  rcases h.2 with ⟨rfl, rfl⟩ | ⟨g, cap, cur, rfl, _⟩
  · exact ⟨none, 0, rfl⟩
  · exact ⟨_, _, rfl⟩

/-! ### Stores into an own row -/
def setAll : List Value → Nat → List Value → List Value
  | cs, _, [] => cs
  | cs, o, v :: r => setAll (cs.set o v) (o + 1) r
theorem setAll_mid : ∀ (new pre old post : List Value), new.length = old.length → setAll (pre ++ (old ++ post)) pre.length new = pre ++ (new ++ post)
  | [], pre, old, post, h => by
    have : old = [] := List.eq_nil_of_length_eq_zero (by simpa using h.symm)
    subst this; rfl
  | v :: r, pre, [], post, h => by simp at h
  | v :: r, pre, o :: old, post, h => by
    have h1 := setAll_mid r (pre ++ [v]) old post (by simpa using h)
    simp only [List.length_append, List.length_cons, List.length_nil, List.append_assoc, List.cons_append, List.nil_append] at h1
    simp only [setAll, List.cons_append]
    rw [List.set_append_right _ _ (Nat.le_refl _)]
    simpa using h1
theorem own_setCells {base e size g n cap : Nat} : ∀ (vs : List Value) {w : World} {cs : List Value} (_ : w.ownsRow base e size (.slice (some ⟨g, 0, none⟩) n cap) n cs) (o : Nat),
    (w.setCells g o vs).ownsRow base e size (.slice (some ⟨g, 0, none⟩) n cap) n (setAll cs o vs) ∧ w.grownBy (w.setCells g o vs) (some g)
  | [], w, _, h, _ => ⟨h, World.grownBy.refl w _⟩
  | v :: r, w, cs, h, o => by
    obtain ⟨h1, h2⟩ := h.stored o v
    obtain ⟨h3, h4⟩ := own_setCells r h1 (o + 1)
    exact ⟨h3, World.grownBy.trans h2 h4⟩
theorem own_there {w : World} {base e size g n cap : Nat} {cs : List Value} (h : w.ownsRow base e size (.slice (some ⟨g, 0, none⟩) n cap) n cs) (o m : Nat) (ho : o + m ≤ n * size) : w.there g o m := fun j hj =>
  ⟨by rw [h.cellAt (o + j) (by omega), List.getElem?_eq_getElem (by rw [h.1]; omega)]; rfl, h.frozenAt _⟩
theorem own_below_store {w w' : World} {B g : Nat} (hg : w.grownBy w' (some g)) (h : B ≤ w.heap.size) (hB : B ≤ g) : Below B w w' := (Below.refl B w).grown hg h (fun k hk => by injection hk with hk; omega)

/-! ### Structs of five ints -/
structure R5 where
  (a b c d e : Int)
deriving DecidableEq
def R5.cells (x : R5) : List Value := [.int .i64 x.a, .int .i64 x.b, .int .i64 x.c, .int .i64 x.d, .int .i64 x.e]
def cells5 (xs : List R5) : List Value := xs.flatMap R5.cells
theorem cells5_nil : cells5 [] = [] := rfl
theorem cells5_cons (x : R5) (xs : List R5) : cells5 (x :: xs) = x.cells ++ cells5 xs := rfl
theorem cells5_append (xs ys : List R5) : cells5 (xs ++ ys) = cells5 xs ++ cells5 ys := List.flatMap_append
theorem length_cells5 (xs : List R5) : (cells5 xs).length = xs.length * 5 := by
  induction xs with
  | nil => rfl
  | cons x xs ih => rw [cells5_cons, List.length_append, ih, List.length_cons]; simp [R5.cells]; omega
theorem cells5_get : ∀ (xs : List R5) (k : Nat) (x : R5), xs[k]? = some x → ∀ j, j < 5 → (cells5 xs)[k * 5 + j]? = x.cells[j]?
  | [], k, x, h, _, _ => by simp at h
  | y :: xs, 0, x, h, j, hj => by
    simp at h; subst h
    rw [cells5_cons, List.getElem?_append_left (by simp [R5.cells]; omega)]; simp
  | y :: xs, k + 1, x, h, j, hj => by
    rw [cells5_cons, List.getElem?_append_right (by simp [R5.cells]; omega)]
    have e : (k + 1) * 5 + j - y.cells.length = k * 5 + j := by simp [R5.cells]; omega
    rw [e]
    exact cells5_get xs k x (by simpa using h) j hj
theorem Rd.at5 {w : World} {A : Option Addr} {xs : List R5} (h : Rd w A (cells5 xs)) {k : Nat} {x : R5} (hk : xs[k]? = some x) :
    ∃ g o, A = some ⟨g, o, none⟩ ∧ g < w.heap.size ∧ w.cell? ⟨g, o + k * 5, none⟩ = some (.int .i64 x.a) ∧ w.cell? ⟨g, o + k * 5 + 1, none⟩ = some (.int .i64 x.b) ∧ w.cell? ⟨g, o + k * 5 + 2, none⟩ = some (.int .i64 x.c) ∧
      w.cell? ⟨g, o + k * 5 + 3, none⟩ = some (.int .i64 x.d) ∧ w.cell? ⟨g, o + k * 5 + 4, none⟩ = some (.int .i64 x.e) := by
  rcases h with h | ⟨g, o, h1, h2, h3⟩
  · have := length_cells5 xs
    rw [h] at this
    have h4 : k < xs.length := (List.getElem?_eq_some_iff.1 hk).1
    simp at this; omega
  · have hh : ∀ j, j < 5 → ∀ v, x.cells[j]? = some v → w.cell? ⟨g, o + k * 5 + j, none⟩ = some v := fun j hj v hv => by
      have := h3 (k * 5 + j) v (by rw [cells5_get xs k x hk j hj]; exact hv)
      rw [← Nat.add_assoc] at this; exact this
    exact ⟨g, o, h1, h2, hh 0 (by omega) _ rfl, hh 1 (by omega) _ rfl, hh 2 (by omega) _ rfl, hh 3 (by omega) _ rfl, hh 4 (by omega) _ rfl⟩

theorem one5 (a b c d e : Int) : (#[.int .i64 a, .int .i64 b, .int .i64 c, .int .i64 d, .int .i64 e] : Array Value).all (·.oneCell') = true := by simp [Value.oneCell']
/-- What is left of a size. -/
def szR (left : Int) (n : Nat) : Int := if left < n then -1 else left - n
/-- The marks that a marking loop writes. -/
def mk5 (k : Int) (i : Nat) : R5 := ⟨k + 5 * i, k + 5 * i + 1, k + 5 * i + 1 + 1, k + 5 * i + 1 + 1 + 1, k + 5 * i + 1 + 1 + 1 + 1⟩
def marks5 (k : Int) (n : Nat) : List R5 := (List.range n).map (mk5 k)
theorem marks5_succ (k : Int) (n : Nat) : marks5 k (n + 1) = marks5 k n ++ [mk5 k n] := by simp [marks5, List.range_succ]
theorem length_marks5 (k : Int) (n : Nat) : (marks5 k n).length = n := by simp [marks5]
theorem marks5_get (k : Int) (n i : Nat) (h : i < n) : (marks5 k n)[i]? = some (mk5 k i) := by simp [marks5, h]
/-- Of a marking loop: the row v, of which i elements are marked. -/
def MarkRel5 (W : World) (base E g n cap : Nat) (k0 : Int) (i : Nat) (wr : World) : Prop :=
  ∃ rest, rest.length = (n - i) * 5 ∧ wr.ownsRow base E 5 (.slice (some ⟨g, 0, none⟩) n cap) n (cells5 (marks5 k0 i) ++ rest) ∧ W.grownBy wr (some g)
theorem MarkRel5.step {W wr : World} {base E g n cap i : Nat} {k0 : Int} (h : MarkRel5 W base E g n cap k0 i wr) (hi : i < n) : MarkRel5 W base E g n cap k0 (i + 1) (wr.setCells g (i * 5) (mk5 k0 i).cells) := by
  obtain ⟨rest, hr, ho, hB⟩ := h
  obtain ⟨old, post, rfl, ho5⟩ : ∃ old post, rest = old ++ post ∧ old.length = 5 := ⟨rest.take 5, rest.drop 5, by simp, by rw [List.length_take]; omega⟩
  obtain ⟨h1, h2⟩ := own_setCells (mk5 k0 i).cells ho (i * 5)
  have hset := setAll_mid (mk5 k0 i).cells (cells5 (marks5 k0 i)) old post (by rw [ho5]; rfl)
  rw [length_cells5, length_marks5] at hset
  rw [hset] at h1
  refine ⟨post, by simp [ho5] at hr; omega, ?_, World.grownBy.trans hB h2⟩
  rw [marks5_succ, cells5_append, List.append_assoc]
  simpa [cells5] using h1
/-- After a marking loop: what it returns, the marked row, that nothing else was written. -/
def RetMark (r : Int) (base E size : Nat) (v : Value) (n : Nat) (cs : List Value) (W : World) : Ending → World → Prop := fun e w' => e = .returned (.int .i64 r) ∧ w'.ownsRow base E size v n cs ∧ W.grownBy w' v.ownBlock

/-! ### Ints -/
def cells1 (zs : List Int) : List Value := zs.map (.int .i64 ·)
theorem length_cells1 (zs : List Int) : (cells1 zs).length = zs.length := by simp [cells1]
theorem cells1_append (xs ys : List Int) : cells1 (xs ++ ys) = cells1 xs ++ cells1 ys := List.map_append
theorem Rd.at1 {w : World} {A : Option Addr} {zs : List Int} (h : Rd w A (cells1 zs)) {k : Nat} {z : Int} (hk : zs[k]? = some z) :
    ∃ g o, A = some ⟨g, o, none⟩ ∧ g < w.heap.size ∧ w.cell? ⟨g, o + k, none⟩ = some (.int .i64 z) := by
  have hz : (cells1 zs)[k]? = some (.int .i64 z) := by simp [cells1, hk]
  rcases h with h | ⟨g, o, h1, h2, h3⟩
  · rw [h] at hz; simp at hz
  · exact ⟨g, o, h1, h2, h3 k _ hz⟩

/-! ### make of a row of structs -/
theorem run_make_rowN {P : Program} (t e : TypeId) (i : TypeInfo) (z : Value) (ht : P.underlying t = some (.slice e)) (hi : P.info? e = some i) (hz : i.zero = some z)
    (kl kc : IntKind) (n c : Nat) (hnc : n ≤ c) (hbytes : i.bytes * c ≤ 281474976710656) (h63 : c ≤ 9223372036854775807) (w : World) :
    (Instr.makeSlice t (.int kl (n : Int)) (.int kc (c : Int))).run P w = .ok (.slice (some ⟨w.heap.size, 0, none⟩) n c) (w.alloc (.cells (madeCells z.cells (c * i.size)) e)) := by
  have hb : (i.bytes : Int) * (c : Int) ≤ 281474976710656 := by
    have h : ((i.bytes * c : Nat) : Int) ≤ 281474976710656 := by omega
    rwa [Int.natCast_mul] at h
  have hr := run_make (P := P) w t e i z ht hi hz kl kc n c (by omega) (by omega) hb (by omega)
  simp only [Int.toNat_natCast] at hr
  exact hr
theorem run_make_info {P : Program} (t e : TypeId) (z : Value) (size bytes : Nat) (ht : P.underlying t = some (.slice e)) (hinfo : (P.info? e).map (fun i => (i.zero, i.size, i.bytes)) = some (some z, size, bytes))
    (n : Nat) (hbytes : bytes * n ≤ 281474976710656) (h63 : n ≤ 9223372036854775807) (w : World) :
    (Instr.makeSlice t (.int .i64 (n : Int)) (.int .i64 (n : Int))).run P w = .ok (.slice (some ⟨w.heap.size, 0, none⟩) n n) (w.alloc (.cells (madeCells z.cells (n * size)) e)) := by
  obtain ⟨i, hi, h1, h2, h3⟩ := info_parts hinfo
  subst h2; subst h3
  exact run_make_rowN t e i z ht hi h1 _ _ n n (Nat.le_refl _) hbytes h63 w
/-- The row that a make lays. -/
theorem own_made (w : World) (base e size n : Nat) (z : Array Value) (hb : base ≤ w.heap.size) (hn : n ≤ maxLen) :
    (w.alloc (.cells (madeCells z (n * size)) e)).ownsRow base e size (.slice (some ⟨w.heap.size, 0, none⟩) n n) n (madeCells z (n * size)).toList :=
  World.ownsRow_lit w _ n hb hn (size_madeCells _ _)

/-! ### append onto a row of the call's own, the source nil, empty or not -/
section
variable {P : Program} (w : World)
theorem run_append_of_nil (base : Nat) (t ty e : TypeId) (i : TypeInfo) (size : Nat) (ht : P.underlying t = some (.slice e)) (hi : P.info? e = some i)
    (v : Value) (n : Nat) (xs : List Value) (hown : w.ownsRow base e size v n xs) (c : Nat) : (Builtin.append_ #[t, t] ty #[v, .slice none 0 c]).run P w = .ok v w := by
  rcases hown.2 with ⟨rfl, rfl⟩ | ⟨g, cap, cur, rfl, _, _, hnc, _⟩
  · simp [Builtin.append_, run_underlying ht, sizeOf, typeInfo, hi, Builtin.lenOf, Builtin.firstCells]
  · simp [Builtin.append_, run_underlying ht, sizeOf, typeInfo, hi, Builtin.lenOf, Builtin.firstCells, hnc, storeCells]

theorem run_app (base : Nat) (t ty e : TypeId) (z : Value) (size bytes : Nat) (ht : P.underlying t = some (.slice e)) (hinfo : (P.info? e).map (fun i => (i.zero, i.size, i.bytes)) = some (some z, size, bytes))
    (hzs : z.cells.size = size) (hsz : 0 < size) (v : Value) (n : Nat) (xs : List Value) (hown : w.ownsRow base e size v n xs)
    (A : Option Addr) (m c : Nat) (news : List Value) (hl : news.length = m * size) (hr : Rd w A news) (h1 : ∀ u ∈ news, u.oneCell' = true)
    (h63 : n + m ≤ maxLen) (hbytes : (n + m) * bytes ≤ 140737488355328) (hbase : base ≤ w.heap.size) :
    ∃ v' w', (Builtin.append_ #[t, t] ty #[v, .slice A m c]).run P w = .ok v' w' ∧ w'.ownsRow base e size v' (n + m) (xs ++ news) ∧ w.grownBy w' v.ownBlock ∧
      (v'.ownBlock = v.ownBlock ∨ v'.ownBlock = some w.heap.size) := by
  obtain ⟨i, hi, hz, hs, hby⟩ := info_parts hinfo
  rcases A with _ | ad
  · have hn : news = [] := by
      rcases hr with h | ⟨g, o, h, _⟩
      · exact h
      · cases h
    subst hn
    have hm : m = 0 := by
      rcases Nat.eq_zero_or_pos m with h | h
      · exact h
      · have := Nat.mul_pos h hsz
        simp at hl; omega
    subst hm
    exact ⟨v, w, run_append_of_nil w base t ty e i size ht hi v n xs hown c, by simpa using hown, World.grownBy.refl w _, .inl rfl⟩
  · have hcells : ∀ j u, news[j]? = some u → w.cell? (ad.add j) = some u := by
      intro j u hu
      rcases hr with h | ⟨g, o, h, _, hc⟩
      · subst h; simp at hu
      · injection h with h
        subst h
        rw [Addr.add_mid]
        exact hc j u hu
    obtain ⟨v', w', hrun, h2, h3, _, h5⟩ := run_append_own_at (P := P) w base t ty e i z size bytes ht hi hz hs hby hzs hsz v n xs hown ad m c news hl hcells h1 h63 hbytes hbase
    exact ⟨v', w', hrun, h2, h3, h5⟩

theorem wp_app {o : Oper} {a : Act} {K : Act → World → Prop} {Q : Exit → Act → World → Prop} (s x : Operand) (t : TypeId)
    (ho : o.op = .call { callee := .builtin .append, args := #[s, x], argTypes := #[t, t] })
    (base : Nat) (e : TypeId) (z : Value) (size bytes : Nat) (ht : P.underlying t = some (.slice e)) (hinfo : (P.info? e).map (fun i => (i.zero, i.size, i.bytes)) = some (some z, size, bytes))
    (hzs : z.cells.size = size) (hsz : 0 < size) (v : Value) (n : Nat) (xs : List Value) (hs : a.eval s = v) (hown : w.ownsRow base e size v n xs)
    (A : Option Addr) (m c : Nat) (news : List Value) (hx : a.eval x = .slice A m c) (hl : news.length = m * size) (hr : Rd w A news) (h1 : ∀ u ∈ news, u.oneCell' = true)
    (h63 : n + m ≤ maxLen) (hbytes : (n + m) * bytes ≤ 140737488355328) (hbase : base ≤ w.heap.size)
    (h : ∀ v' w', w'.ownsRow base e size v' (n + m) (xs ++ news) → w.grownBy w' v.ownBlock → (v'.ownBlock = v.ownBlock ∨ v'.ownBlock = some w.heap.size) → K (a.put o.dst v') w') : o.wp P a w K Q := by
  obtain ⟨v', w', hrun, h2, h3, h4⟩ := run_app (P := P) w base t o.type e z size bytes ht hinfo hzs hsz v n xs hown A m c news hl hr h1 h63 hbytes hbase
  unfold Oper.wp execOp
  simp only [ho, resolve, invoke, builtin, Sem.run_bind, Sem.run_pure, Result.andThen_ok, List.map_toArray, List.map_cons, List.map_nil, hs, hx, hrun]
  exact h v' w' h2 h3 h4

theorem wpList_app {ops : Array Oper} {rest : List Oper} {o : Oper} {a : Act} {Q : Exit → Act → World → Prop} (hgd : o.guard = none) (s x : Operand) (t : TypeId)
    (ho : o.op = .call { callee := .builtin .append, args := #[s, x], argTypes := #[t, t] })
    (base : Nat) (e : TypeId) (z : Value) (size bytes : Nat) (ht : P.underlying t = some (.slice e)) (hinfo : (P.info? e).map (fun i => (i.zero, i.size, i.bytes)) = some (some z, size, bytes))
    (hzs : z.cells.size = size) (hsz : 0 < size) (v : Value) (n : Nat) (xs : List Value) (hs : a.eval s = v) (hown : w.ownsRow base e size v n xs)
    (A : Option Addr) (m c : Nat) (news : List Value) (hx : a.eval x = .slice A m c) (hl : news.length = m * size) (hr : Rd w A news) (h1 : ∀ u ∈ news, u.oneCell' = true)
    (h63 : n + m ≤ maxLen) (hbytes : (n + m) * bytes ≤ 140737488355328) (hbase : base ≤ w.heap.size)
    (h : ∀ v' w', w'.ownsRow base e size v' (n + m) (xs ++ news) → w.grownBy w' v.ownBlock → (v'.ownBlock = v.ownBlock ∨ v'.ownBlock = some w.heap.size) → wpList P ops Q rest (a.put o.dst v') w') : wpList P ops Q (o :: rest) a w :=
  wpList_plain hgd fun _ hK => wp_app w s x t ho base e z size bytes ht hinfo hzs hsz v n xs hs hown A m c news hx hl hr h1 h63 hbytes hbase fun v' w' h2 h3 h4 => hK _ _ (h v' w' h2 h3 h4)
end
/-- A list of cells in the newest block. -/
theorem rd_new {w : World} {b : Nat} (cs : Array Value) (t : TypeId) (hb : b = w.heap.size) : Rd (w.alloc (.cells cs t)) (some ⟨b, 0, none⟩) cs.toList := by
  subst hb
  refine .inr ⟨w.heap.size, 0, rfl, by simp, fun j v hv => ?_⟩
  rw [World.cell?_alloc_at _ _ _ _ rfl]
  simpa using hv
theorem oneCell_ints (zs : List Int) : ∀ u ∈ cells1 zs, u.oneCell' = true := ints_oneCell .i64 zs
theorem oneCell_cells5 (xs : List R5) : ∀ u ∈ cells5 xs, u.oneCell' = true := by
  intro u hu
  simp only [cells5, List.mem_flatMap] at hu
  obtain ⟨x, _, hu⟩ := hu
  simp only [R5.cells, List.mem_cons, List.not_mem_nil, or_false] at hu
  rcases hu with rfl | rfl | rfl | rfl | rfl <;> rfl
/-- Behind an append that may have written the row v of the call's own. -/
theorem below_app {B : Nat} {w w' : World} {base e size n : Nat} {v : Value} {cs : List Value} (ho : w.ownsRow base e size v n cs) (hg : w.grownBy w' v.ownBlock) (hB : B ≤ w.heap.size) (hb : B ≤ base) : Below B w w' :=
  (Below.refl B w).grown hg hB (fun k hk => Nat.le_trans hb (ho.lt k hk).1)
end Go.Proofs.Ytobloedpmjkgpaa
