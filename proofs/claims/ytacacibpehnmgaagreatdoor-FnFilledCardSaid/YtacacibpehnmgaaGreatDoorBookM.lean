/- The stock book: rows turned within a list of the call's own; marks, and the reading of marks. -/
import Derived.Test.YtacacibpehnmgaaGreatDoorBookO
namespace Go.Proofs.YtacacibpehnmgaaGreatDoor
set_option linter.unusedVariables false
set_option linter.unusedSimpArgs false
open Go.RowKit

/-- Only blocks of S were written, beside new ones. -/
structure Only (S : Nat → Prop) (w w' : World) : Prop where
  os : w'.os = w.os
  tape : w'.tape = w.tape
  output : w'.output = w.output
  size : w.heap.size ≤ w'.heap.size
  block : ∀ k, k < w.heap.size → ¬ S k → w'.heap[k]? = w.heap[k]?
theorem Only.refl (S : Nat → Prop) (w : World) : Only S w w := ⟨rfl, rfl, rfl, Nat.le_refl _, fun _ _ _ => rfl⟩
theorem Only.trans {S : Nat → Prop} {a b c : World} (h : Only S a b) (k : Only S b c) : Only S a c :=
  ⟨k.os.trans h.os, k.tape.trans h.tape, k.output.trans h.output, Nat.le_trans h.size k.size, fun i h1 h2 => (k.block i (Nat.lt_of_lt_of_le h1 h.size) h2).trans (h.block i h1 h2)⟩
theorem Only.of_grown {w w' : World} {row : Option Nat} (h : w.grownBy w' row) : Only (fun k => row = some k) w w' :=
  ⟨h.os, h.tape, h.output, h.size, fun k h1 h2 => h.block k h1 (fun e => h2 e.symm)⟩
theorem Only.mono {S T : Nat → Prop} {w w' : World} (h : Only S w w') (hT : ∀ k, S k → T k) : Only T w w' :=
  ⟨h.os, h.tape, h.output, h.size, fun k h1 h2 => h.block k h1 (fun e => h2 (hT k e))⟩
theorem Only.below {S : Nat → Prop} {B : Nat} {w w' : World} (h : Only S w w') (hS : ∀ k, S k → B ≤ k) (hB : B ≤ w.heap.size) : Below B w w' :=
  ⟨h.os, h.tape, h.output, h.size, fun k hk => h.block k (by omega) (fun e => by have := hS k e; omega)⟩
theorem Only.of_below {S : Nat → Prop} {w w' : World} (h : Below w.heap.size w w') : Only S w w' :=
  ⟨h.os, h.tape, h.output, h.size, fun k h1 _ => h.block k h1⟩
theorem own_only {w w' : World} {S : Nat → Prop} {lo E size n : Nat} {v : Value} {cs : List Value} (h : w.ownsRow lo E size v n cs) (hw : Only S w w') (hd : ∀ k, v.ownBlock = some k → S k → False) : w'.ownsRow lo E size v n cs := by
  refine ⟨h.1, ?_⟩
  rcases h.2 with h2 | ⟨g, cap, cur, hv, hg, hh, r⟩
  · exact .inl h2
  · exact .inr ⟨g, cap, cur, hv, hg, (hw.block g (Array.getElem?_eq_some_iff.1 hh).1 (hd g (by rw [hv]; rfl))).trans hh, r⟩
/-- The blocks of a list of rows. -/
def inB (v : Value) (vs : List Value) (k : Nat) : Prop := ∃ (j : Nat) (a : Value), (v :: vs)[j]? = some a ∧ a.ownBlock = some k

theorem cellsB_set_id : ∀ {xs : List BR} {vs : List Value} {i : Nat} {x : BR} (id : Int), vs.length = xs.length → xs[i]? = some x → cellsB (xs.set i ⟨id, x.ws⟩) vs = (cellsB xs vs).set (i * 2) (.int .i64 id)
  | [], _, _, _, _, _, h => by simp at h
  | _ :: _, [], _, _, _, h, _ => by simp at h
  | y :: xs, u :: vs, 0, x, id, _, h => by simp at h; subst h; rfl
  | y :: xs, u :: vs, i + 1, x, id, hl, h => by
    rw [show (i + 1) * 2 = i * 2 + 1 + 1 by omega]
    simp only [List.set_cons_succ, cellsB]
    rw [cellsB_set_id id (by simpa using hl) (by simpa using h)]
theorem cellsB_ws : ∀ {xs : List BR} {vs : List Value} {i : Nat} {x : BR} (ws : List Int), xs[i]? = some x → cellsB (xs.set i ⟨x.id, ws⟩) vs = cellsB xs vs
  | [], _, _, _, _, h => by simp at h
  | y :: xs, [], 0, _, _, _ => rfl
  | y :: xs, [], i + 1, _, _, _ => rfl
  | y :: xs, u :: vs, 0, x, ws, h => by simp at h; subst h; rfl
  | y :: xs, u :: vs, i + 1, x, ws, h => by
    simp only [List.set_cons_succ, cellsB]
    rw [cellsB_ws ws (by simpa using h)]
theorem cellsB_set_v : ∀ {xs : List BR} {vs : List Value} {i : Nat} (u : Value), vs.length = xs.length → cellsB xs (vs.set i u) = (cellsB xs vs).set (i * 2 + 1) u
  | [], [], _, _, _ => rfl
  | [], _ :: _, _, _, h => by simp at h
  | _ :: _, [], _, _, h => by simp at h
  | y :: xs, v :: vs, 0, u, _ => rfl
  | y :: xs, v :: vs, i + 1, u, hl => by
    rw [show (i + 1) * 2 + 1 = i * 2 + 1 + 1 + 1 by omega]
    simp only [List.set_cons_succ, cellsB]
    rw [cellsB_set_v u (by simpa using hl)]

theorem Apart.ne {L : List Value} {i j : Nat} {a b : Value} (h : Apart L) (hij : i ≠ j) (ha : L[i]? = some a) (hb : L[j]? = some b) : a.ownBlock = none ∨ a.ownBlock ≠ b.ownBlock := by
  cases e : a.ownBlock with
  | none => exact .inl rfl
  | some k =>
    refine .inr fun h2 => ?_
    rcases Nat.lt_or_gt_of_ne hij with hlt | hlt
    · exact h i j a b k hlt ha hb e h2.symm
    · exact h j i b a k hlt hb ha h2.symm e
theorem apart_of {L : List Value} (h : ∀ (i j : Nat) (a b : Value) (k : Nat), i ≠ j → L[i]? = some a → L[j]? = some b → a.ownBlock = some k → b.ownBlock = some k → False) : Apart L :=
  fun i j a b k hij ha hb hk hk' => h i j a b k (by omega) ha hb hk hk'
theorem Apart.no {L : List Value} {i j : Nat} {a b : Value} {k : Nat} (h : Apart L) (hij : i ≠ j) (ha : L[i]? = some a) (hb : L[j]? = some b) (hk : a.ownBlock = some k) (hk' : b.ownBlock = some k) : False := by
  rcases h.ne hij ha hb with e | e
  · rw [e] at hk; cases hk
  · exact e (hk.trans hk'.symm)
theorem Apart.map {L L' : List Value} (h : Apart L) (σ : Nat → Nat) (hσ : ∀ i j, σ i = σ j → i = j) (hL : ∀ (j : Nat) (a : Value), L'[j]? = some a → L[σ j]? = some a) : Apart L' :=
  apart_of fun i j a b k hij ha hb hk hk' => h.no (fun e => hij (hσ i j e)) (hL i a ha) (hL j b hb) hk hk'
theorem Apart.set {L : List Value} {m B : Nat} {u u' : Value} (h : Apart L) (hm : L[m]? = some u) (hu : ∀ k, u'.ownBlock = some k → u.ownBlock = some k ∨ B ≤ k) (hB : ∀ (j : Nat) (a : Value) (k : Nat), L[j]? = some a → a.ownBlock = some k → k < B) : Apart (L.set m u') := by
  have hml : m < L.length := (List.getElem?_eq_some_iff.1 hm).1
  refine apart_of fun i j a b k hij ha hb hk hk' => ?_
  by_cases hi : i = m
  · subst hi
    rw [List.getElem?_set_self hml] at ha; injection ha with ha; subst ha
    rw [List.getElem?_set_ne hij] at hb
    rcases hu k hk with e | e
    · exact h.no hij hm hb e hk'
    · have := hB j b k hb hk'; omega
  · rw [List.getElem?_set_ne (fun e => hi e.symm)] at ha
    by_cases hj : j = m
    · subst hj
      rw [List.getElem?_set_self hml] at hb; injection hb with hb; subst hb
      rcases hu k hk' with e | e
      · exact h.no hij ha hm hk e
      · have := hB i a k ha hk; omega
    · rw [List.getElem?_set_ne (fun e => hj e.symm)] at hb
      exact h.no hij ha hb hk hk'

/-- Every block of such a list lies from lo on, below the heap's end. -/
theorem OwnB.lt {w : World} {lo E EI : Nat} {v : Value} {xs : List BR} {vs : List Value} (h : OwnB w lo E EI v xs vs) : ∀ (j : Nat) (a : Value) (k : Nat), (v :: vs)[j]? = some a → a.ownBlock = some k → lo ≤ k ∧ k < w.heap.size := by
  intro j a k ha hk
  cases j with
  | zero => simp at ha; subst ha; exact h.2.1.lt k hk
  | succ j =>
    have ha' : vs[j]? = some a := by simpa using ha
    have hj : j < xs.length := by have := (List.getElem?_eq_some_iff.1 ha').1; have := h.1; omega
    exact (h.2.2.1 j xs[j] a (List.getElem?_eq_getElem hj) ha').lt k hk
/-- Memory is written, but not the list's blocks. -/
theorem OwnB.only {w w' : World} {S : Nat → Prop} {lo E EI : Nat} {v : Value} {xs : List BR} {vs : List Value} (h : OwnB w lo E EI v xs vs) (hw : Only S w w') (hd : ∀ (j : Nat) (a : Value) (k : Nat), (v :: vs)[j]? = some a → a.ownBlock = some k → S k → False) : OwnB w' lo E EI v xs vs :=
  ⟨h.1, own_only h.2.1 hw (fun k hk => hd 0 v k rfl hk), fun j x u hx hu => own_only (h.2.2.1 j x u hx hu) hw (fun k hk => hd (j + 1) u k (by simpa using hu) hk), h.2.2.2⟩
theorem OwnB.mono {w : World} {lo lo' E EI : Nat} {v : Value} {xs : List BR} {vs : List Value} (h : OwnB w lo E EI v xs vs) (hl : lo' ≤ lo) : OwnB w lo' E EI v xs vs :=
  ⟨h.1, own_mono h.2.1 hl, fun j x u hx hu => own_mono (h.2.2.1 j x u hx hu) hl, h.2.2.2⟩
/-- An inner row turned, in place. -/
theorem OwnB.inner {w w' : World} {lo E EI i : Nat} {v u : Value} {xs : List BR} {vs : List Value} {x : BR} {ws : List Int} (h : OwnB w lo E EI v xs vs) (hx : xs[i]? = some x) (hu : vs[i]? = some u)
    (ho : w'.ownsRow lo EI 1 u ws.length (cells1 ws)) (hg : w.grownBy w' u.ownBlock) : OwnB w' lo E EI v (xs.set i ⟨x.id, ws⟩) vs := by
  obtain ⟨hl, hr, hi, ha⟩ := h
  refine ⟨by rw [List.length_set]; exact hl, ?_, fun j y z hy hz => ?_, ha⟩
  · rw [cellsB_ws ws hx, List.length_set]
    exact hr.kept hg (ha.ne (i := 0) (j := i + 1) (by omega) rfl (by simpa using hu))
  · by_cases hij : i = j
    · subst hij
      rw [hu] at hz; injection hz with hz; subst hz
      rw [List.getElem?_set_self (List.getElem?_eq_some_iff.1 hx).1] at hy; injection hy with hy; subst hy
      exact ho
    · rw [List.getElem?_set_ne hij] at hy
      exact (hi j y z hy hz).kept hg (ha.ne (i := j + 1) (j := i + 1) (by omega) (by simpa using hz) (by simpa using hu))
/-- An id stored. -/
theorem OwnB.setId {w : World} {lo E EI i g n cap : Nat} {xs : List BR} {vs : List Value} {x : BR} (h : OwnB w lo E EI (.slice (some ⟨g, 0, none⟩) n cap) xs vs) (hn : xs.length = n) (hx : xs[i]? = some x) (id : Int) :
    OwnB (w.setCell ⟨g, i * 2, none⟩ (.int .i64 id)) lo E EI (.slice (some ⟨g, 0, none⟩) n cap) (xs.set i ⟨id, x.ws⟩) vs := by
  obtain ⟨hl, hr, hi, ha⟩ := h
  rw [hn] at hr
  obtain ⟨h1, h2⟩ := hr.stored (i * 2) (.int .i64 id)
  refine ⟨by rw [List.length_set]; exact hl, ?_, fun j y z hy hz => ?_, ha⟩
  · rw [cellsB_set_id id hl hx, List.length_set, hn]; exact h1
  · have hk : ∀ y', y'.ws = y.ws → xs[j]? = some y' → (w.setCell ⟨g, i * 2, none⟩ (.int .i64 id)).ownsRow lo EI 1 z y.ws.length (cells1 y.ws) := fun y' e hy' => by
      rw [← e]
      exact (hi j y' z hy' hz).kept h2 (ha.ne (i := j + 1) (j := 0) (by omega) (by simpa using hz) rfl)
    by_cases hij : i = j
    · subst hij
      rw [List.getElem?_set_self (List.getElem?_eq_some_iff.1 hx).1] at hy; injection hy with hy; subst hy
      exact hk x rfl hx
    · rw [List.getElem?_set_ne hij] at hy
      exact hk y rfl hy
/-- A row's slice turned: in place, grown, or cut to nothing; then its slice value stored. -/
theorem OwnB.setSlice {w w' : World} {lo E EI i g n cap : Nat} {u u' : Value} {xs : List BR} {vs : List Value} {x : BR} {ws : List Int} (h : OwnB w lo E EI (.slice (some ⟨g, 0, none⟩) n cap) xs vs) (hn : xs.length = n) (hx : xs[i]? = some x) (hu : vs[i]? = some u)
    (ho : w'.ownsRow lo EI 1 u' ws.length (cells1 ws)) (hg : w.grownBy w' u.ownBlock) (hne : ∀ k, u'.ownBlock = some k → u.ownBlock = some k ∨ w.heap.size ≤ k) :
    OwnB (w'.setCell ⟨g, i * 2 + 1, none⟩ u') lo E EI (.slice (some ⟨g, 0, none⟩) n cap) (xs.set i ⟨x.id, ws⟩) (vs.set i u') := by
  have hlt := h.lt
  obtain ⟨hl, hr, hi, ha⟩ := h
  rw [hn] at hr
  have hil : i < vs.length := (List.getElem?_eq_some_iff.1 hu).1
  have hr' := hr.kept hg (ha.ne (i := 0) (j := i + 1) (by omega) rfl (by simpa using hu))
  obtain ⟨h1, h2⟩ := hr'.stored (i * 2 + 1) u'
  have ha' : Apart (.slice (some ⟨g, 0, none⟩) n cap :: vs.set i u') := by
    have := ha.set (m := i + 1) (u := u) (by simpa using hu) hne (fun j a k hj hk => (hlt j a k hj hk).2)
    simpa using this
  refine ⟨by simp [hl], ?_, fun j y z hy hz => ?_, ha'⟩
  · rw [cellsB_set_v u' (by simp [hl]), cellsB_ws ws hx, List.length_set, hn]; exact h1
  · by_cases hij : i = j
    · subst hij
      rw [List.getElem?_set_self hil] at hz; injection hz with hz; subst hz
      rw [List.getElem?_set_self (List.getElem?_eq_some_iff.1 hx).1] at hy; injection hy with hy; subst hy
      exact ho.kept h2 (ha'.ne (i := i + 1) (j := 0) (by omega) (by simp [hil]) rfl)
    · rw [List.getElem?_set_ne hij] at hy hz
      have hz' : (Value.slice (some ⟨g, 0, none⟩) n cap :: vs.set i u')[j + 1]? = some z := by simp [List.getElem?_set_ne hij, hz]
      exact ((hi j y z hy hz).kept hg (ha.ne (i := j + 1) (j := i + 1) (by omega) (by simpa using hz) (by simpa using hu))).kept h2 (ha'.ne (i := j + 1) (j := 0) (by omega) hz' rfl)

theorem OwnB.rd2 {w : World} {lo E EI n c : Nat} {A : Option Addr} {xs : List BR} {vs : List Value} (h : OwnB w lo E EI (.slice A n c) xs vs) : RdB w A xs := by
  obtain ⟨A', c', e⟩ := own_form h.2.1
  injection e with e1 e2 e3
  subst e2
  exact h.rd

/-! ### Marks -/
def markB : Int → List BR → List BR
  | _, [] => []
  | k, x :: xs => ⟨k, marks1 (k + 1) x.ws.length⟩ :: markB (k + 1 + x.ws.length) xs
theorem length_markB : ∀ (xs : List BR) (k : Int), (markB k xs).length = xs.length
  | [], _ => rfl
  | x :: xs, k => by simp [markB, length_markB xs]
theorem szB_take {xs : List BR} {i : Nat} {x : BR} (h : xs[i]? = some x) : szB (xs.take (i + 1)) = szB (xs.take i) + (1 + x.ws.length) := by
  induction xs generalizing i with
  | nil => simp at h
  | cons y ys ih =>
    cases i with
    | zero => simp at h; subst h; simp [szB]
    | succ i =>
      simp only [List.take_succ_cons, szB]
      rw [ih (by simpa using h)]; omega
theorem szB_take_le (xs : List BR) (i : Nat) : szB (xs.take i) ≤ szB xs := by
  induction xs generalizing i with
  | nil => simp [szB]
  | cons y ys ih =>
    cases i with
    | zero => simp [szB]
    | succ i => simp only [List.take_succ_cons, szB]; have := ih i; omega
theorem markB_take {xs : List BR} {i : Nat} {x : BR} (k : Int) (h : xs[i]? = some x) :
    markB k (xs.take (i + 1)) = markB k (xs.take i) ++ [⟨k + szB (xs.take i), marks1 (k + szB (xs.take i) + 1) x.ws.length⟩] := by
  induction xs generalizing i k with
  | nil => simp at h
  | cons y ys ih =>
    cases i with
    | zero => simp at h; subst h; simp [markB, szB]
    | succ i =>
      simp only [List.take_succ_cons, markB, szB, List.cons_append]
      rw [ih _ (by simpa using h)]
      have e : k + 1 + (y.ws.length : Int) + (szB (ys.take i) : Int) = k + ((1 + y.ws.length + szB (ys.take i) : Nat) : Int) := by omega
      rw [e]
theorem markB_get {xs : List BR} {i : Nat} {x : BR} (k : Int) (h : xs[i]? = some x) : (markB k xs)[i]? = some ⟨k + szB (xs.take i), marks1 (k + szB (xs.take i) + 1) x.ws.length⟩ := by
  induction xs generalizing i k with
  | nil => simp at h
  | cons y ys ih =>
    cases i with
    | zero => simp at h; subst h; simp [markB, szB]
    | succ i =>
      simp only [List.take_succ_cons, markB, szB, List.getElem?_cons_succ]
      rw [ih _ (by simpa using h)]
      have e : k + 1 + (y.ws.length : Int) + (szB (ys.take i) : Int) = k + ((1 + y.ws.length + szB (ys.take i) : Nat) : Int) := by omega
      rw [e]
/-- What a marking loop leaves behind i rows. -/
def MarkRelB (W : World) (lo E EI : Nat) (v : Value) (xs : List BR) (vs : List Value) (k0 : Int) (i : Nat) (wr : World) : Prop :=
  OwnB wr lo E EI v (markB k0 (xs.take i) ++ xs.drop i) vs ∧ Only (inB v vs) W wr
/-- After a marking loop: what it returns, the marked list, that nothing else was written. -/
def RetMarkB (r : Int) (lo E EI : Nat) (v : Value) (xs : List BR) (vs : List Value) (W : World) : Ending → World → Prop := fun e w' => e = .returned (.int .i64 r) ∧ OwnB w' lo E EI v xs vs ∧ Only (inB v vs) W w'
theorem mid_set {α : Type} {l : List α} {i : Nat} (hl : l.length = i) (x y : α) (r : List α) : (l ++ x :: r).set i y = l ++ y :: r := by
  subst hl; rw [List.set_append_right _ _ (Nat.le_refl _)]; simp
theorem mid_get {α : Type} {l : List α} {i : Nat} (hl : l.length = i) (x : α) (r : List α) : (l ++ x :: r)[i]? = some x := by
  subst hl; simp
theorem drop_cons {α : Type} {xs : List α} {i : Nat} {x : α} (h : xs[i]? = some x) : xs.drop i = x :: xs.drop (i + 1) := by
  rw [List.drop_eq_getElem?_toList_append, h]; rfl

/-! ### The numbers a list holds -/
theorem szL_neg : ∀ (xs : List BR) (l : Int), 0 ≤ l → szL l xs < 0 → szL l xs = -1
  | [], l, h0, h => by simp [szL] at h; omega
  | x :: xs, l, h0, h => by
    simp only [szL] at h ⊢
    split
    · rfl
    · rename_i hh; rw [if_neg hh] at h; exact szL_neg xs _ (by omega) h
theorem szBV_neg {xs : List BR} (h : szBV 1048576 xs < 0) : szBV 1048576 xs = -1 := by
  unfold szBV at h ⊢
  split
  · rfl
  · rename_i hh; rw [if_neg hh] at h; exact szL_neg xs _ (by omega) h
theorem szL_tot : ∀ (xs : List BR) (l : Int), 0 ≤ szL l xs → (szB xs : Int) - xs.length ≤ l
  | [], l, h => by simp [szL] at h; simp [szB]; omega
  | x :: xs, l, h => by
    simp only [szL] at h
    split at h
    · omega
    · have := szL_tot xs _ h; simp only [szB, List.length_cons]; omega
theorem szL_le : ∀ (xs : List BR) (l : Int), 0 ≤ l → szL l xs ≤ l
  | [], l, h => by simp [szL]
  | x :: xs, l, h => by
    simp only [szL]
    split
    · omega
    · have := szL_le xs (l - x.ws.length) (by omega); omega
theorem szBV_le (xs : List BR) (l : Int) (h : 0 ≤ l) : szBV l xs ≤ l := by
  unfold szBV; split
  · omega
  · have := szL_le xs (l - xs.length) (by omega); omega
theorem szBV_pos {xs : List BR} (h : 0 ≤ szBV 1048576 xs) : xs.length ≤ 1048576 ∧ (∀ x ∈ xs, x.ws.length ≤ 1048576) ∧ szB xs ≤ 2097152 := by
  unfold szBV at h
  split at h
  · omega
  · rename_i hh
    have h1 := szL_tot xs _ h
    refine ⟨by omega, fun x hx => ?_, by omega⟩
    have := szL_bound h x hx; omega

/-! ### The walks of the marks -/
theorem MarkRelB.step {W wr w1 : World} {lo E EI g n cap i : Nat} {u : Value} {xs : List BR} {vs : List Value} {k0 : Int} {x : BR} (h : MarkRelB W lo E EI (.slice (some ⟨g, 0, none⟩) n cap) xs vs k0 i wr) (hn : xs.length = n) (hx : xs[i]? = some x) (hu : vs[i]? = some u)
    (ho : w1.ownsRow lo EI 1 u x.ws.length (cells1 (marks1 (k0 + szB (xs.take i) + 1) x.ws.length))) (hg : (wr.setCell ⟨g, i * 2, none⟩ (.int .i64 (k0 + szB (xs.take i)))).grownBy w1 u.ownBlock) :
    MarkRelB W lo E EI (.slice (some ⟨g, 0, none⟩) n cap) xs vs k0 (i + 1) w1 := by
  obtain ⟨h1, h2⟩ := h
  have hil : i < xs.length := (List.getElem?_eq_some_iff.1 hx).1
  have hml : (markB k0 (xs.take i)).length = i := by rw [length_markB, List.length_take]; omega
  rw [drop_cons hx] at h1
  have hlen : (markB k0 (xs.take i) ++ x :: xs.drop (i + 1)).length = n := by simp [hml]; omega
  have hid := h1.setId hlen (mid_get hml x _) (k0 + szB (xs.take i))
  have hgr : wr.grownBy (wr.setCell ⟨g, i * 2, none⟩ (.int .i64 (k0 + szB (xs.take i)))) (some g) := by
    have hr := h1.2.1; rw [hlen] at hr
    exact (hr.stored (i * 2) (.int .i64 (k0 + szB (xs.take i)))).2
  rw [mid_set hml] at hid
  have hin := hid.inner (ws := marks1 (k0 + szB (xs.take i) + 1) x.ws.length) (mid_get hml _ _) hu (by simpa [length_marks1] using ho) hg
  rw [mid_set hml] at hin
  refine ⟨?_, h2.trans (((Only.of_grown hgr).mono ?_).trans ((Only.of_grown hg).mono ?_))⟩
  · rw [markB_take k0 hx, List.append_assoc]; exact hin
  · intro k hk; exact ⟨0, _, rfl, hk⟩
  · intro k hk; exact ⟨i + 1, u, by simpa using hu, hk⟩
theorem szB_take_lt {xs : List BR} {i : Nat} {x : BR} (h : xs[i]? = some x) : szB (xs.take i) + (1 + x.ws.length) ≤ szB xs := by
  have := szB_take h; have := szB_take_le xs (i + 1); omega


end Go.Proofs.YtacacibpehnmgaaGreatDoor
