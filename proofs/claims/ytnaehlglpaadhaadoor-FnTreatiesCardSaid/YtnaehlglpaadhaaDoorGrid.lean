/- Rows of slices of ints: how such a list reads; comparison, marks, the reading of marks. -/
import Derived.Test.YtnaehlglpaadhaaDoorApart
namespace Go.Proofs.YtnaehlglpaadhaaDoor
set_option linter.unusedVariables false
set_option linter.unusedSimpArgs false
open Go.RowKit

/-- The list reads so. -/
def RdS (w : World) (A : Option Addr) (gs : List (List Int)) : Prop :=
  gs = [] ∨ ∃ g o, A = some ⟨g, o, none⟩ ∧ g < w.heap.size ∧ ∀ k x, gs[k]? = some x → ∃ v, w.cell? ⟨g, o + k, none⟩ = some v ∧ RdI w v x
theorem RdS.below {w w' : World} {A : Option Addr} {gs : List (List Int)} (h : RdS w A gs) (hb : Below w.heap.size w w') : RdS w' A gs := by
  rcases h with h | ⟨g, o, e, hg, hc⟩
  · exact .inl h
  · refine .inr ⟨g, o, e, Nat.lt_of_lt_of_le hg hb.size, fun k x hx => ?_⟩
    obtain ⟨v, h2, h3⟩ := hc k x hx
    exact ⟨v, (hb.cell (p := ⟨g, _, none⟩) hg).trans h2, h3.below hb⟩
theorem RdS.at {w : World} {A : Option Addr} {gs : List (List Int)} (h : RdS w A gs) {k : Nat} {x : List Int} (hk : gs[k]? = some x) :
    ∃ g o B c, A = some ⟨g, o, none⟩ ∧ g < w.heap.size ∧ w.cell? ⟨g, o + k, none⟩ = some (.slice B x.length c) ∧ x.length ≤ c ∧ c ≤ maxLen ∧ Rd w B (cells1 x) := by
  rcases h with h | ⟨g, o, e, hg, hc⟩
  · subst h; simp at hk
  · obtain ⟨v, h2, B, c, rfl, h3, h4, h5⟩ := hc k x hk
    exact ⟨g, o, B, c, e, hg, h2, h3, h4, h5⟩

/-- A list of rows in memory of the call's own: the row and each inner row, all apart. -/
def OwnS (w : World) (lo E EI : Nat) (v : Value) (gs : List (List Int)) (vs : List Value) : Prop :=
  vs.length = gs.length ∧ w.ownsRow lo E 1 v gs.length vs ∧ (∀ (j : Nat) (x : List Int) (u : Value), gs[j]? = some x → vs[j]? = some u → w.ownsRow lo EI 1 u x.length (cells1 x)) ∧ Apart (v :: vs)
theorem OwnS.below {w w' : World} {lo E EI : Nat} {v : Value} {gs : List (List Int)} {vs : List Value} (h : OwnS w lo E EI v gs vs) (hb : Below w.heap.size w w') : OwnS w' lo E EI v gs vs :=
  ⟨h.1, own_below h.2.1 hb, fun j x u hx hu => own_below (h.2.2.1 j x u hx hu) hb, h.2.2.2⟩
theorem OwnS.rd {w : World} {lo E EI n c : Nat} {A : Option Addr} {gs : List (List Int)} {vs : List Value} (h : OwnS w lo E EI (.slice A n c) gs vs) : RdS w A gs := by
  obtain ⟨hl, ho, hi, _⟩ := h
  obtain ⟨A', c', e⟩ := own_form ho
  injection e with e1 e2 e3
  subst e2
  rcases Rd.of_own ho with h0 | ⟨g, o, e, hg, hc⟩
  · left
    rw [h0] at hl
    exact List.eq_nil_of_length_eq_zero (by simpa using hl.symm)
  · refine .inr ⟨g, o, e, hg, fun k x hx => ?_⟩
    have hk : k < vs.length := by have := (List.getElem?_eq_some_iff.1 hx).1; omega
    exact ⟨vs[k], hc _ _ (List.getElem?_eq_getElem hk), RdI.of_own (hi k x _ hx (List.getElem?_eq_getElem hk))⟩
theorem OwnS.lt {w : World} {lo E EI : Nat} {v : Value} {gs : List (List Int)} {vs : List Value} (h : OwnS w lo E EI v gs vs) : ∀ (j : Nat) (a : Value) (k : Nat), (v :: vs)[j]? = some a → a.ownBlock = some k → lo ≤ k ∧ k < w.heap.size := by
  intro j a k ha hk
  cases j with
  | zero => simp at ha; subst ha; exact h.2.1.lt k hk
  | succ j =>
    have ha' : vs[j]? = some a := by simpa using ha
    have hj : j < gs.length := by have := (List.getElem?_eq_some_iff.1 ha').1; have := h.1; omega
    exact (h.2.2.1 j gs[j] a (List.getElem?_eq_getElem hj) ha').lt k hk
theorem OwnS.only {w w' : World} {S : Nat → Prop} {lo E EI : Nat} {v : Value} {gs : List (List Int)} {vs : List Value} (h : OwnS w lo E EI v gs vs) (hw : Only S w w') (hd : ∀ (j : Nat) (a : Value) (k : Nat), (v :: vs)[j]? = some a → a.ownBlock = some k → S k → False) : OwnS w' lo E EI v gs vs :=
  ⟨h.1, own_only h.2.1 hw (fun k hk => hd 0 v k rfl hk), fun j x u hx hu => own_only (h.2.2.1 j x u hx hu) hw (fun k hk => hd (j + 1) u k (by simpa using hu) hk), h.2.2.2⟩
theorem OwnS.mono {w : World} {lo lo' E EI : Nat} {v : Value} {gs : List (List Int)} {vs : List Value} (h : OwnS w lo E EI v gs vs) (hl : lo' ≤ lo) : OwnS w lo' E EI v gs vs :=
  ⟨h.1, own_mono h.2.1 hl, fun j x u hx hu => own_mono (h.2.2.1 j x u hx hu) hl, h.2.2.2⟩
/-- An inner row turned, in place. -/
theorem OwnS.inner {w w' : World} {lo E EI i : Nat} {v u : Value} {gs : List (List Int)} {vs : List Value} {x ws : List Int} (h : OwnS w lo E EI v gs vs) (hx : gs[i]? = some x) (hu : vs[i]? = some u)
    (ho : w'.ownsRow lo EI 1 u ws.length (cells1 ws)) (hg : w.grownBy w' u.ownBlock) : OwnS w' lo E EI v (gs.set i ws) vs := by
  obtain ⟨hl, hr, hi, ha⟩ := h
  refine ⟨by rw [List.length_set]; exact hl, ?_, fun j y z hy hz => ?_, ha⟩
  · rw [List.length_set]
    exact hr.kept hg (ha.ne (i := 0) (j := i + 1) (by omega) rfl (by simpa using hu))
  · by_cases hij : i = j
    · subst hij
      rw [hu] at hz; injection hz with hz; subst hz
      rw [List.getElem?_set_self (List.getElem?_eq_some_iff.1 hx).1] at hy; injection hy with hy; subst hy
      exact ho
    · rw [List.getElem?_set_ne hij] at hy
      exact (hi j y z hy hz).kept hg (ha.ne (i := j + 1) (j := i + 1) (by omega) (by simpa using hz) (by simpa using hu))
/-- One more row: the outer row has grown to v' with u at its end; u lies apart. -/
theorem OwnS.snoc {w w' : World} {lo E EI : Nat} {v v' u : Value} {gs : List (List Int)} {vs : List Value} {x : List Int} (h : OwnS w lo E EI v gs vs) (ho : w'.ownsRow lo E 1 v' (gs.length + 1) (vs ++ [u])) (hg : w.grownBy w' v.ownBlock)
    (hv : ∀ k, v'.ownBlock = some k → v.ownBlock = some k ∨ w.heap.size ≤ k) (hu : w.ownsRow lo EI 1 u x.length (cells1 x)) (hun : ∀ (j : Nat) (a : Value) (k : Nat), (v :: vs)[j]? = some a → a.ownBlock = some k → u.ownBlock ≠ some k) : OwnS w' lo E EI v' (gs ++ [x]) (vs ++ [u]) := by
  have hlt := h.lt
  obtain ⟨hl, hr, hi, ha⟩ := h
  have hus : u.ownBlock = none ∨ u.ownBlock ≠ v.ownBlock := by
    cases e : u.ownBlock with
    | none => exact .inl rfl
    | some k => exact .inr fun e2 => hun 0 v k rfl e2.symm e
  refine ⟨by simp [hl], by simpa using ho, fun j y z hy hz => ?_, ?_⟩
  · rcases Nat.lt_or_ge j gs.length with hj | hj
    · rw [List.getElem?_append_left hj] at hy
      rw [List.getElem?_append_left (by omega)] at hz
      exact (hi j y z hy hz).kept hg (ha.ne (i := j + 1) (j := 0) (by omega) (by simpa using hz) rfl)
    · have hj1 : j < gs.length + 1 := by have := (List.getElem?_eq_some_iff.1 hy).1; simpa using this
      obtain rfl : j = gs.length := by omega
      rw [List.getElem?_append_right (Nat.le_refl _), Nat.sub_self] at hy
      rw [List.getElem?_append_right (by omega), show gs.length - vs.length = 0 by omega] at hz
      simp at hy hz; subst hy; subst hz
      exact hu.kept hg hus
  · have h1 : Apart (vs ++ [u]) := by
      refine apart_of fun i j a b k hij hia hib hk hk' => ?_
      have hil : i < vs.length + 1 := by have := (List.getElem?_eq_some_iff.1 hia).1; simpa using this
      have hjl : j < vs.length + 1 := by have := (List.getElem?_eq_some_iff.1 hib).1; simpa using this
      rcases Nat.lt_or_ge i vs.length with hi1 | hi1
      · rw [List.getElem?_append_left hi1] at hia
        rcases Nat.lt_or_ge j vs.length with hj1 | hj1
        · rw [List.getElem?_append_left hj1] at hib
          exact ha.no (i := i + 1) (j := j + 1) (by omega) (by simpa using hia) (by simpa using hib) hk hk'
        · obtain rfl : j = vs.length := by omega
          rw [List.getElem?_append_right (Nat.le_refl _), Nat.sub_self] at hib
          simp at hib; subst hib
          exact hun (i + 1) a k (by simpa using hia) hk hk'
      · obtain rfl : i = vs.length := by omega
        rw [List.getElem?_append_right (Nat.le_refl _), Nat.sub_self] at hia
        simp at hia; subst hia
        rw [List.getElem?_append_left (by omega)] at hib
        exact hun (j + 1) b k (by simpa using hib) hk' hk
    refine apart_cons h1 fun j b k hb hk hbk => ?_
    have hjl : j < vs.length + 1 := by have := (List.getElem?_eq_some_iff.1 hb).1; simpa using this
    rcases hv k hk with e | e
    · rcases Nat.lt_or_ge j vs.length with hj1 | hj1
      · rw [List.getElem?_append_left hj1] at hb
        exact ha.no (i := 0) (j := j + 1) (by omega) rfl (by simpa using hb) e hbk
      · obtain rfl : j = vs.length := by omega
        rw [List.getElem?_append_right (Nat.le_refl _), Nat.sub_self] at hb
        simp at hb; subst hb
        exact hun 0 v k rfl e hbk
    · rcases Nat.lt_or_ge j vs.length with hj1 | hj1
      · rw [List.getElem?_append_left hj1] at hb
        have := (hlt (j + 1) b k (by simpa using hb) hbk).2
        omega
      · obtain rfl : j = vs.length := by omega
        rw [List.getElem?_append_right (Nat.le_refl _), Nat.sub_self] at hb
        simp at hb; subst hb
        have := (hu.lt k hbk).2
        omega
theorem OwnS.nil (w : World) (lo E EI : Nat) : OwnS w lo E EI (.slice none 0 0) [] [] :=
  ⟨rfl, World.ownsRow_nil _ _ _ _, fun j x u hx _ => by simp at hx, apart_cons (fun i j a b k _ ha => by simp at ha) (fun j b k hb => by simp at hb)⟩


/-! ### Marks -/
def szG (gs : List (List Int)) : Nat := (gs.map List.length).sum
def markS : Int → List (List Int) → List (List Int)
  | _, [] => []
  | k, x :: xs => marks1 k x.length :: markS (k + x.length) xs
theorem length_markS : ∀ (xs : List (List Int)) (k : Int), (markS k xs).length = xs.length
  | [], _ => rfl
  | x :: xs, k => by simp [markS, length_markS xs]
theorem szG_take {xs : List (List Int)} {i : Nat} {x : List Int} (h : xs[i]? = some x) : szG (xs.take (i + 1)) = szG (xs.take i) + x.length := by
  rw [List.take_add_one, h]; simp [szG]
theorem szG_take_le (xs : List (List Int)) (i : Nat) : szG (xs.take i) ≤ szG xs := by
  conv => rhs; rw [← List.take_append_drop i xs]
  simp only [szG, List.map_append, List.sum_append]; omega
theorem szG_take_lt {xs : List (List Int)} {i : Nat} {x : List Int} (h : xs[i]? = some x) : szG (xs.take i) + x.length ≤ szG xs := by
  have := szG_take h; have := szG_take_le xs (i + 1); omega
theorem markS_take {xs : List (List Int)} {i : Nat} {x : List Int} (k : Int) (h : xs[i]? = some x) :
    markS k (xs.take (i + 1)) = markS k (xs.take i) ++ [marks1 (k + szG (xs.take i)) x.length] := by
  induction xs generalizing i k with
  | nil => simp at h
  | cons y ys ih =>
    cases i with
    | zero => simp at h; subst h; simp [markS, szG]
    | succ i =>
      simp only [List.take_succ_cons, markS, List.cons_append]
      rw [ih _ (by simpa using h)]
      have e : k + (y.length : Int) + (szG (ys.take i) : Int) = k + ((szG (y :: ys.take i) : Nat) : Int) := by simp [szG]; omega
      rw [e]
theorem markS_get {xs : List (List Int)} {i : Nat} {x : List Int} (k : Int) (h : xs[i]? = some x) : (markS k xs)[i]? = some (marks1 (k + szG (xs.take i)) x.length) := by
  induction xs generalizing i k with
  | nil => simp at h
  | cons y ys ih =>
    cases i with
    | zero => simp at h; subst h; simp [markS, szG]
    | succ i =>
      simp only [List.take_succ_cons, markS, List.getElem?_cons_succ]
      rw [ih _ (by simpa using h)]
      have e : k + (y.length : Int) + (szG (ys.take i) : Int) = k + ((szG (y :: ys.take i) : Nat) : Int) := by simp [szG]; omega
      rw [e]
/-- What a marking loop leaves behind i rows. -/
def MarkRelS (W : World) (lo E EI : Nat) (v : Value) (xs : List (List Int)) (vs : List Value) (k0 : Int) (i : Nat) (wr : World) : Prop :=
  OwnS wr lo E EI v (markS k0 (xs.take i) ++ xs.drop i) vs ∧ Only (inB v vs) W wr
def RetMarkS (r : Int) (lo E EI : Nat) (v : Value) (xs : List (List Int)) (vs : List Value) (W : World) : Ending → World → Prop := fun e w' => e = .returned (.int .i64 r) ∧ OwnS w' lo E EI v xs vs ∧ Only (inB v vs) W w'
theorem MarkRelS.step {W wr w1 : World} {lo E EI i : Nat} {v u : Value} {xs : List (List Int)} {vs : List Value} {k0 : Int} {x : List Int} (h : MarkRelS W lo E EI v xs vs k0 i wr) (hx : xs[i]? = some x) (hu : vs[i]? = some u)
    (ho : w1.ownsRow lo EI 1 u x.length (cells1 (marks1 (k0 + szG (xs.take i)) x.length))) (hg : wr.grownBy w1 u.ownBlock) :
    MarkRelS W lo E EI v xs vs k0 (i + 1) w1 := by
  obtain ⟨h1, h2⟩ := h
  have hil : i < xs.length := (List.getElem?_eq_some_iff.1 hx).1
  have hml : (markS k0 (xs.take i)).length = i := by rw [length_markS, List.length_take]; omega
  rw [drop_cons hx] at h1
  have hin := h1.inner (ws := marks1 (k0 + szG (xs.take i)) x.length) (mid_get hml _ _) hu (by simpa [length_marks1] using ho) hg
  rw [mid_set hml] at hin
  refine ⟨?_, h2.trans ((Only.of_grown hg).mono ?_)⟩
  · rw [markS_take k0 hx, List.append_assoc]; exact hin
  · intro k hk; exact ⟨i + 1, u, by simpa using hu, hk⟩


end Go.Proofs.YtnaehlglpaadhaaDoor
