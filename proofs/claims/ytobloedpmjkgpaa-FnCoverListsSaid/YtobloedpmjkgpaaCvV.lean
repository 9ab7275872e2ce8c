/- Covers, rates and mails: the values that the program and the reference compute, and what the law on lists of covers asks of them. Plain Lean, no program. -/
import Derived.Test.YtobloedpmjkgpaaIn
namespace Go.Proofs.Ytobloedpmjkgpaa
set_option linter.unusedVariables false
set_option linter.unusedSimpArgs false
open Go.RowKit

section
variable {α : Type} (one : α → Bool) (bef : α → α → Bool)
def okA (xs : List α) (j : Nat) : Bool := match xs[j]? with
  | some x => one x && (j == 0 || match xs[j - 1]? with | some y => bef y x | none => false)
  | none => true
def allA (xs : List α) : Bool := (List.range xs.length).all (okA one bef xs)
end
section
variable {α : Type} {one : α → Bool} {bef : α → α → Bool} {xs : List α} {k : Nat} {x y : α}
theorem okA_no (h : xs[k]? = some x) (hv : one x = false) : okA one bef xs k = false := by simp [okA, h, hv]
theorem okA_first (h : xs[k]? = some x) (hv : one x = true) (hk : k = 0) : okA one bef xs k = true := by subst hk; simp only [okA, h]; simp [hv]
theorem okA_next (h : xs[k]? = some x) (hv : one x = true) (hk : k ≠ 0) (hy : xs[k - 1]? = some y) : okA one bef xs k = bef y x := by simp [okA, h, hv, hk, hy]
theorem allA_no (hk : k < xs.length) (h : okA one bef xs k = false) : allA one bef xs = false := by
  unfold allA; rw [List.all_eq_false]; exact ⟨k, by simpa using hk, by simp [h]⟩
theorem allA_end (h : ∀ j, j < xs.length → okA one bef xs j = true) : allA one bef xs = true := by
  unfold allA; rw [List.all_eq_true]; intro j hj; exact h j (by simpa using hj)
theorem allA_at (h : allA one bef xs = true) (hx : xs[k]? = some x) : one x = true := by
  unfold allA at h; rw [List.all_eq_true] at h
  have := h k (by simpa using (List.getElem?_eq_some_iff.1 hx).1)
  simp only [okA, hx, Bool.and_eq_true] at this
  exact this.1
theorem allA_ord (h : allA one bef xs = true) (hx : xs[k + 1]? = some x) (hy : xs[k]? = some y) : bef y x = true := by
  unfold allA at h; rw [List.all_eq_true] at h
  have := h (k + 1) (by simpa using (List.getElem?_eq_some_iff.1 hx).1)
  simp only [okA, hx, Bool.and_eq_true, Nat.add_sub_cancel, hy] at this
  simpa using this.2
theorem allA_mk (h1 : ∀ (k : Nat) (x : α), xs[k]? = some x → one x = true) (h2 : ∀ (k : Nat) (x y : α), xs[k + 1]? = some x → xs[k]? = some y → bef y x = true) : allA one bef xs = true := by
  refine allA_end fun j hj => ?_
  have hx : xs[j]? = some xs[j] := List.getElem?_eq_getElem hj
  cases j with
  | zero => exact okA_first hx (h1 _ _ hx) rfl
  | succ j =>
    have hy : xs[j]? = some xs[j] := List.getElem?_eq_getElem (by omega)
    rw [okA_next hx (h1 _ _ hx) (by omega) (y := xs[j]) (by rw [Nat.add_sub_cancel]; exact hy)]
    exact h2 j _ _ hx hy
/-- The relation of a loop that tests a list. -/
def ARel (one : α → Bool) (bef : α → α → Bool) (xs : List α) (k : Nat) : Prop := ∀ j, j < k → okA one bef xs j = true
theorem ARel.zero : ARel one bef xs 0 := fun j hj => by omega
theorem ARel.step (h : ARel one bef xs k) (hok : okA one bef xs k = true) : ARel one bef xs (k + 1) := fun j hj => by
  rcases Nat.lt_or_ge j k with hj' | hj'
  · exact h j hj'
  · have : j = k := by omega
    subst this; exact hok
theorem ARel.all (h : ARel one bef xs k) (hk : xs.length ≤ k) : allA one bef xs = true := allA_end fun j hj => h j (by omega)
end


/-! ### Rates: a is Zone, b Grams, c From, d Until, e Cents -/
def rtB (x : R5) : Bool := decide ((0 ≤ x.a ∧ x.a ≤ 9) ∧ (1 ≤ x.b ∧ x.b ≤ 2000) ∧ (0 ≤ x.c ∧ x.c ≤ 4000) ∧ (0 ≤ x.d ∧ x.d ≤ 4000) ∧ x.c ≤ x.d ∧ (1 ≤ x.e ∧ x.e ≤ 9999))
theorem rtB_bd {x : R5} (h : rtB x = true) : (0 ≤ x.a ∧ x.a ≤ 9) ∧ (1 ≤ x.b ∧ x.b ≤ 2000) ∧ (0 ≤ x.c ∧ x.c ≤ 4000) ∧ (0 ≤ x.d ∧ x.d ≤ 4000) ∧ x.c ≤ x.d ∧ (1 ≤ x.e ∧ x.e ≤ 9999) := by simpa only [rtB, decide_eq_true_eq] using h
def rtBef (y x : R5) : Bool := decide (y.a < x.a ∨ y.a = x.a ∧ (y.b < x.b ∨ y.b = x.b ∧ y.d < x.c))
def rtL (xs : List R5) : Bool := allA rtB rtBef xs && decide (xs.length ≤ 16)
theorem rtL_no {xs : List R5} {k : Nat} (hk : k < xs.length) (h : okA rtB rtBef xs k = false) : rtL xs = false := by simp [rtL, allA_no hk h]
theorem rtL_end {xs : List R5} {k n : Nat} (h : ARel rtB rtBef xs k) (hn : xs.length = n) (hk : n ≤ k) : decide ((n : Int) ≤ 16) = rtL xs := by
  rw [rtL, h.all (by omega), hn, Bool.true_and]; exact decide_eq_decide.2 (by omega)
theorem rtL_long {xs : List R5} {n : Nat} (hn : xs.length = n) (hk : 16 < n) : rtL xs = false := by simp [rtL]; intro _; omega
theorem rtL_at {xs : List R5} (h : rtL xs = true) {k : Nat} {x : R5} (hx : xs[k]? = some x) : rtB x = true := by
  simp only [rtL, Bool.and_eq_true] at h; exact allA_at h.1 hx
theorem rtL_len {xs : List R5} (h : rtL xs = true) : xs.length ≤ 16 := by simpa [rtL] using (Bool.and_eq_true _ _ ▸ h : allA rtB rtBef xs = true ∧ decide (xs.length ≤ 16) = true).2
def rtKey (x : R5) : Int := (10000 * x.a + x.b) * 10000 + x.c
/-- What the reference asks of neighbours. -/
theorem rt_spec {x y : R5} (hx : rtB x = true) (hy : rtB y = true) : rtBef y x = (!decide (rtKey x ≤ rtKey y) && !(decide (y.a = x.a) && (decide (y.b = x.b) && decide (x.c ≤ y.d)))) := by
  obtain ⟨ha, hb, hc, hd, hcd, -⟩ := rtB_bd hx
  obtain ⟨ga, gb, gc, gd, gcd, -⟩ := rtB_bd hy
  have hk : rtKey x ≤ rtKey y ↔ (x.a < y.a ∨ x.a = y.a ∧ (x.b < y.b ∨ x.b = y.b ∧ x.c ≤ y.c)) := by unfold rtKey; omega
  rw [Bool.eq_iff_iff]
  simp only [rtBef, Bool.and_eq_true, Bool.not_eq_true', decide_eq_true_eq, decide_eq_false_iff_not, Bool.and_eq_false_iff, hk]
  omega
/-- What the program asks of neighbours: q is the order of zones and grams. -/
def rtQ (day zone grams : Int) (r : R5) : Bool := decide (r.a = zone ∧ grams ≤ r.b ∧ r.c ≤ day ∧ day ≤ r.d)
def rtFor (xs : List R5) (day zone grams : Int) : Int := match xs.find? (rtQ day zone grams) with | some r => r.e | none => 0
def rtHas (xs : List R5) (day zone grams : Int) : Bool := (xs.find? (rtQ day zone grams)).isSome
theorem find_pre {α : Type} {q : α → Bool} {xs : List α} {k : Nat} {x : α} (h : ∀ (j : Nat) (y : α), j < k → xs[j]? = some y → q y = false) (hx : xs[k]? = some x) (hq : q x = true) : xs.find? q = some x := by
  rw [List.find?_eq_some_iff_getElem]
  obtain ⟨hk, e⟩ := List.getElem?_eq_some_iff.1 hx
  refine ⟨hq, k, hk, e, fun j hj => ?_⟩
  have := h j xs[j] hj (List.getElem?_eq_getElem (by omega))
  simp [this]
theorem find_none {α : Type} {q : α → Bool} {xs : List α} {k : Nat} (h : ∀ (j : Nat) (y : α), j < k → xs[j]? = some y → q y = false) (hk : xs.length ≤ k) : xs.find? q = none := by
  rw [List.find?_eq_none]
  intro x hx
  obtain ⟨j, hj⟩ := List.mem_iff_getElem?.1 hx
  have := (List.getElem?_eq_some_iff.1 hj).1
  simp [h j x (by omega) hj]
theorem rtFor_bd {xs : List R5} (h : rtL xs = true) (day zone grams : Int) : 0 ≤ rtFor xs day zone grams ∧ rtFor xs day zone grams ≤ 9999 ∧ rtHas xs day zone grams = decide (rtFor xs day zone grams ≠ 0) := by
  unfold rtFor rtHas
  cases hf : xs.find? (rtQ day zone grams) with
  | none => simp
  | some r =>
    obtain ⟨k, hk⟩ := List.mem_iff_getElem?.1 (List.mem_of_find?_eq_some hf)
    have := rtB_bd (rtL_at h hk)
    simp; omega

/-! ### Mails: a is Leave, b From, c To, d Arrive -/
structure R4 where
  (a b c d : Int)
deriving DecidableEq
def mlB (x : R4) : Bool := decide ((0 ≤ x.b ∧ x.b ≤ 9) ∧ (0 ≤ x.c ∧ x.c ≤ 9) ∧ x.b ≠ x.c ∧ (0 ≤ x.a ∧ x.a ≤ x.d - 1) ∧ (0 ≤ x.d ∧ x.d ≤ 9999))
theorem mlB_bd {x : R4} (h : mlB x = true) : (0 ≤ x.b ∧ x.b ≤ 9) ∧ (0 ≤ x.c ∧ x.c ≤ 9) ∧ x.b ≠ x.c ∧ (0 ≤ x.a ∧ x.a ≤ x.d - 1) ∧ (0 ≤ x.d ∧ x.d ≤ 9999) := by simpa only [mlB, decide_eq_true_eq] using h
def mlLess (x y : R4) : Bool := decide (x.a < y.a ∨ x.a = y.a ∧ (x.b < y.b ∨ x.b = y.b ∧ (x.c < y.c ∨ x.c = y.c ∧ x.d < y.d)))
def mlKey (x : R4) : Int := ((x.a * 10 + x.b) * 10 + x.c) * 10000 + x.d
theorem mlKey_less {x y : R4} (hx : mlB x = true) (hy : mlB y = true) : mlLess x y = !decide (mlKey y ≤ mlKey x) := by
  have := mlB_bd hx; have := mlB_bd hy
  unfold mlKey mlLess
  rw [Bool.eq_iff_iff]
  simp only [decide_eq_true_eq, Bool.not_eq_true', decide_eq_false_iff_not]
  omega
def mlL (xs : List R4) : Bool := allA mlB mlLess xs && decide (xs.length ≤ 20)
theorem mlL_no {xs : List R4} {k : Nat} (hk : k < xs.length) (h : okA mlB mlLess xs k = false) : mlL xs = false := by simp [mlL, allA_no hk h]
theorem mlL_end {xs : List R4} {k n : Nat} (h : ARel mlB mlLess xs k) (hn : xs.length = n) (hk : n ≤ k) : decide ((n : Int) ≤ 20) = mlL xs := by
  rw [mlL, h.all (by omega), hn, Bool.true_and]; exact decide_eq_decide.2 (by omega)
theorem mlL_at {xs : List R4} (h : mlL xs = true) {k : Nat} {x : R4} (hx : xs[k]? = some x) : mlB x = true := by
  simp only [mlL, Bool.and_eq_true] at h; exact allA_at h.1 hx
theorem mlL_len {xs : List R4} (h : mlL xs = true) : xs.length ≤ 20 := by simp only [mlL, Bool.and_eq_true, decide_eq_true_eq] at h; exact h.2
theorem mlL_sorted {xs : List R4} (h : mlL xs = true) : ∀ (d i : Nat) (x y : R4), xs[i]? = some x → xs[i + d]? = some y → x.a ≤ y.a := by
  simp only [mlL, Bool.and_eq_true] at h
  intro d
  induction d with
  | zero => intro i x y hx hy; rw [Nat.add_zero, hx] at hy; injection hy with hy; subst hy; omega
  | succ d ih =>
    intro i x y hx hy
    have hl := (List.getElem?_eq_some_iff.1 hy).1
    have hc : xs[i + d]? = some (xs[i + d]'(by omega)) := List.getElem?_eq_getElem _
    have h1 := ih i x _ hx hc
    have h2 := allA_ord h.1 hy hc
    simp only [mlLess, decide_eq_true_eq] at h2
    omega

/-! ### The least minutes -/
def atT (out : List Int) (o : Int) : Int := (out[o.toNat]?).getD 10000
def tmStep (out : List Int) (x : R4) : List Int := if atT out x.b ≤ x.a ∧ x.d < atT out x.c then out.set x.c.toNat x.d else out
def tm0 (f m : Int) : List Int := (List.replicate 10 10000).set f.toNat m
def tmP (xs : List R4) (f m : Int) (k : Nat) : List Int := (xs.take k).foldl tmStep (tm0 f m)
def tmV (xs : List R4) (f m : Int) : List Int := tmP xs f m xs.length
theorem tmP_step {xs : List R4} {f m : Int} {k : Nat} {x : R4} (h : xs[k]? = some x) : tmP xs f m (k + 1) = tmStep (tmP xs f m k) x := by
  simp [tmP, List.take_add_one, h]
theorem tmStep_len (out : List Int) (x : R4) : (tmStep out x).length = out.length := by unfold tmStep; split <;> simp
theorem tmP_len (xs : List R4) (f m : Int) : ∀ k, (tmP xs f m k).length = 10
  | 0 => by simp [tmP, tm0]
  | k + 1 => by
    cases hx : xs[k]? with
    | none => have e : tmP xs f m (k + 1) = tmP xs f m k := by simp [tmP, List.take_add_one, hx]
              rw [e]; exact tmP_len xs f m k
    | some x => rw [tmP_step hx, tmStep_len]; exact tmP_len xs f m k
theorem atT_set {out : List Int} (hl : out.length = 10) {o p : Int} (ho : 0 ≤ o ∧ o ≤ 9) (hp : 0 ≤ p ∧ p ≤ 9) (v : Int) : atT (out.set o.toNat v) p = if p = o then v else atT out p := by
  unfold atT
  by_cases h : p = o
  · subst h; rw [if_pos rfl, List.getElem?_set_self (by omega)]; rfl
  · rw [if_neg h, List.getElem?_set_ne (by omega)]
theorem atT_step {out : List Int} (hl : out.length = 10) {x : R4} (hx : mlB x = true) {p : Int} (hp : 0 ≤ p ∧ p ≤ 9) :
    atT (tmStep out x) p = if p = x.c ∧ atT out x.b ≤ x.a ∧ x.d < atT out x.c then x.d else atT out p := by
  have h := mlB_bd hx
  unfold tmStep
  split
  · rename_i hc
    rw [atT_set hl h.2.1 hp]
    by_cases e : p = x.c
    · rw [if_pos e, if_pos ⟨e, hc⟩]
    · rw [if_neg e, if_neg (fun hh => e hh.1)]
  · rename_i hc
    rw [if_neg (fun hh => hc hh.2)]
theorem atT_tm0 {f m : Int} (hf : 0 ≤ f ∧ f ≤ 9) {p : Int} (hp : 0 ≤ p ∧ p ≤ 9) : atT (tm0 f m) p = if p = f then m else 10000 := by
  unfold tm0
  rw [atT_set (by simp) hf hp]
  split
  · rfl
  · unfold atT; rw [List.getElem?_replicate, if_pos (by omega)]; rfl
/-- The reference's store of the lesser one. -/
theorem tmStep_min {out : List Int} (hl : out.length = 10) {x : R4} (hx : mlB x = true) (h : atT out x.b ≤ x.a) : out.set x.c.toNat (if x.d < atT out x.c then x.d else atT out x.c) = tmStep out x := by
  have hb := mlB_bd hx
  unfold tmStep
  split
  · rename_i hc; rw [if_pos ⟨h, hc⟩]
  · rename_i hc
    rw [if_neg (fun hh => hc hh.2)]
    have hlt : x.c.toNat < out.length := by omega
    have e : atT out x.c = out[x.c.toNat] := by unfold atT; rw [List.getElem?_eq_getElem hlt]; rfl
    rw [e, List.set_getElem_self]
theorem tmStep_no {out : List Int} {x : R4} (h : x.a < atT out x.b) : tmStep out x = out := by unfold tmStep; rw [if_neg (by omega)]
/-- All entries are minutes, or 10000. -/
def okT (out : List Int) : Prop := ∀ v ∈ out, (0 ≤ v ∧ v ≤ 9999) ∨ v = 10000
theorem okT_at {out : List Int} (h : okT out) (p : Int) : (0 ≤ atT out p ∧ atT out p ≤ 9999) ∨ atT out p = 10000 := by
  unfold atT
  cases e : out[p.toNat]? with
  | none => right; rfl
  | some v => exact h v (List.mem_of_getElem? e)
theorem okT_set {out : List Int} (h : okT out) {i : Nat} {v : Int} (hv : 0 ≤ v ∧ v ≤ 9999) : okT (out.set i v) := fun u hu => by
  rcases List.mem_or_eq_of_mem_set hu with h1 | rfl
  · exact h u h1
  · exact .inl hv
theorem okT_tm0 {f m : Int} (hm : 0 ≤ m ∧ m ≤ 9999) : okT (tm0 f m) := okT_set (fun v hv => .inr (List.eq_of_mem_replicate hv)) hm
theorem okT_step {out : List Int} (h : okT out) {x : R4} (hx : mlB x = true) : okT (tmStep out x) := by
  have hb := mlB_bd hx
  unfold tmStep; split
  · exact okT_set h hb.2.2.2.2
  · exact h
theorem tmP_ok {xs : List R4} (hg : mlL xs = true) (f : Int) {m : Int} (hm : 0 ≤ m ∧ m ≤ 9999) : ∀ k, okT (tmP xs f m k)
  | 0 => by simpa [tmP] using okT_tm0 hm
  | k + 1 => by
    cases hx : xs[k]? with
    | none => have e : tmP xs f m (k + 1) = tmP xs f m k := by simp [tmP, List.take_add_one, hx]
              rw [e]; exact tmP_ok hg f hm k
    | some x => rw [tmP_step hx]; exact okT_step (tmP_ok hg f hm k) (mlL_at hg hx)
/-- The program's: -1 in the place of 10000. -/
def cvT (v : Int) : Int := if v = 10000 then -1 else v
def tmI (out : List Int) : List Int := out.map cvT
theorem tmI_len (out : List Int) : (tmI out).length = out.length := by simp [tmI]
theorem tmI_at {out : List Int} (hl : out.length = 10) {p : Int} (hp : 0 ≤ p ∧ p ≤ 9) : (tmI out)[p.toNat]? = some (cvT (atT out p)) := by
  have hlt : p.toNat < out.length := by omega
  unfold tmI atT
  rw [List.getElem?_map, List.getElem?_eq_getElem hlt]; rfl
theorem tm_at {out : List Int} (hl : out.length = 10) {p : Int} (hp : 0 ≤ p ∧ p ≤ 9) : out[p.toNat]? = some (atT out p) := by
  have hlt : p.toNat < out.length := by omega
  unfold atT
  rw [List.getElem?_eq_getElem hlt]; rfl
theorem tmI_tm0 (f : Int) {m : Int} (hm : 0 ≤ m ∧ m ≤ 9999) : tmI (tm0 f m) = (List.replicate 10 (-1)).set f.toNat m := by
  unfold tmI tm0
  rw [List.map_set, List.map_replicate]
  have e1 : cvT m = m := by unfold cvT; rw [if_neg (by omega)]
  rw [e1]; rfl
theorem tmI_set {out : List Int} {x : R4} (hx : mlB x = true) (h : atT out x.b ≤ x.a) (h2 : x.d < atT out x.c) : (tmI out).set x.c.toNat x.d = tmI (tmStep out x) := by
  have hb := mlB_bd hx
  unfold tmStep; rw [if_pos ⟨h, h2⟩]
  unfold tmI
  rw [List.map_set]
  have e1 : cvT x.d = x.d := by unfold cvT; rw [if_neg (by omega)]
  rw [e1]

/-! ### Routes -/
inductive Rt (xs : List R4) : Int → Int → Int → Int → Prop
  | nil (f m : Int) : Rt xs f m f m
  | cons {x : R4} {f m t v : Int} : x ∈ xs → x.b = f → m ≤ x.a → Rt xs x.c x.d t v → Rt xs f m t v
theorem Rt.snoc {xs : List R4} {f m g u : Int} (h : Rt xs f m g u) : ∀ {x : R4}, x ∈ xs → x.b = g → u ≤ x.a → Rt xs f m x.c x.d := by
  induction h with
  | nil f m => intro x hx hb ha; exact .cons hx hb ha (.nil _ _)
  | cons h1 h2 h3 _ ih => intro x hx hb ha; exact .cons h1 h2 h3 (ih hx hb ha)
theorem Rt.le {xs : List R4} (hg : ∀ x ∈ xs, mlB x = true) {f m t v : Int} (h : Rt xs f m t v) : m ≤ v ∧ (f = t ∧ m = v ∨ m < v) := by
  induction h with
  | nil f m => exact ⟨by omega, .inl ⟨rfl, rfl⟩⟩
  | cons h1 h2 h3 _ ih => have := mlB_bd (hg _ h1); omega
theorem ml_all {xs : List R4} (h : mlL xs = true) : ∀ x ∈ xs, mlB x = true := fun x hx => by
  obtain ⟨k, hk⟩ := List.mem_iff_getElem?.1 hx; exact mlL_at h hk
/-- Each entry is the end of a route. -/
theorem tm_sound {xs : List R4} (hg : mlL xs = true) {f m : Int} (hf : 0 ≤ f ∧ f ≤ 9) : ∀ (k : Nat) (p : Int), 0 ≤ p ∧ p ≤ 9 → atT (tmP xs f m k) p ≠ 10000 → Rt xs f m p (atT (tmP xs f m k) p)
  | 0, p, hp, hne => by
    have e : tmP xs f m 0 = tm0 f m := by simp [tmP]
    rw [e, atT_tm0 hf hp] at hne ⊢
    by_cases h : p = f
    · subst h; rw [if_pos rfl]; exact .nil _ _
    · rw [if_neg h] at hne; exact absurd rfl hne
  | k + 1, p, hp, hne => by
    cases hx : xs[k]? with
    | none =>
      have e : tmP xs f m (k + 1) = tmP xs f m k := by simp [tmP, List.take_add_one, hx]
      rw [e] at hne ⊢; exact tm_sound hg hf k p hp hne
    | some x =>
      have hB := mlL_at hg hx
      have hb := mlB_bd hB
      rw [tmP_step hx, atT_step (tmP_len _ _ _ _) hB hp] at hne ⊢
      split
      · rename_i hc
        obtain ⟨rfl, h1, h2⟩ := hc
        have := tm_sound hg hf k x.b hb.1 (m := m) (by omega)
        exact this.snoc (List.mem_of_getElem? hx) rfl h1
      · rename_i hc
        rw [if_neg hc] at hne
        exact tm_sound hg hf k p hp hne
/-- From k on, an entry becomes less only by a later arrival. -/
theorem tm_later {xs : List R4} (hg : mlL xs = true) {f m : Int} {k : Nat} {y : R4} (hy : xs[k]? = some y) {p : Int} (hp : 0 ≤ p ∧ p ≤ 9) : ∀ d : Nat, atT (tmP xs f m (k + d)) p ≤ y.a → atT (tmP xs f m k) p ≤ y.a
  | 0, h => h
  | d + 1, h => by
    refine tm_later hg hy hp d ?_
    cases hx : xs[k + d]? with
    | none =>
      have e : tmP xs f m (k + (d + 1)) = tmP xs f m (k + d) := by rw [← Nat.add_assoc]; simp [tmP, List.take_add_one, hx]
      rwa [e] at h
    | some x =>
      have hB := mlL_at hg hx
      have hb := mlB_bd hB
      have hs := mlL_sorted hg d k y x hy hx
      rw [← Nat.add_assoc, tmP_step hx, atT_step (tmP_len _ _ _ _) hB hp] at h
      split at h
      · omega
      · exact h
theorem tm_anti {xs : List R4} (hg : mlL xs = true) {f m : Int} {p : Int} (hp : 0 ≤ p ∧ p ≤ 9) (k : Nat) : ∀ d : Nat, atT (tmP xs f m (k + d)) p ≤ atT (tmP xs f m k) p
  | 0 => Int.le_refl _
  | d + 1 => by
    have ih := tm_anti hg (f := f) (m := m) hp k d
    cases hx : xs[k + d]? with
    | none =>
      have e : tmP xs f m (k + (d + 1)) = tmP xs f m (k + d) := by rw [← Nat.add_assoc]; simp [tmP, List.take_add_one, hx]
      rw [e]; exact ih
    | some x =>
      have hB := mlL_at hg hx
      rw [← Nat.add_assoc, tmP_step hx, atT_step (tmP_len _ _ _ _) hB hp]
      split
      · rename_i hc; obtain ⟨rfl, -, h2⟩ := hc; omega
      · exact ih
theorem tm_mail {xs : List R4} (hg : mlL xs = true) {f m : Int} {x : R4} (hx : x ∈ xs) (h : atT (tmV xs f m) x.b ≤ x.a) : atT (tmV xs f m) x.c ≤ x.d := by
  obtain ⟨k, hk⟩ := List.mem_iff_getElem?.1 hx
  have hl := (List.getElem?_eq_some_iff.1 hk).1
  have hB := mlL_at hg hk
  have hb := mlB_bd hB
  have e : xs.length = k + (xs.length - k) := by omega
  have h1 := tm_later hg hk hb.1 (xs.length - k) (by rw [← e]; exact h)
  have h2 : atT (tmP xs f m (k + 1)) x.c ≤ x.d := by
    rw [tmP_step hk, atT_step (tmP_len _ _ _ _) hB hb.2.1]
    split
    · omega
    · rename_i hc; have := fun hh => hc ⟨rfl, h1, hh⟩; omega
  have h3 := tm_anti hg (f := f) (m := m) hb.2.1 (k + 1) (xs.length - (k + 1))
  rw [show k + 1 + (xs.length - (k + 1)) = xs.length by omega] at h3
  unfold tmV; omega
theorem tm_start {xs : List R4} (hg : mlL xs = true) {f m : Int} (hf : 0 ≤ f ∧ f ≤ 9) : atT (tmV xs f m) f ≤ m := by
  have := tm_anti hg (f := f) (m := m) hf 0 xs.length
  rw [Nat.zero_add, show tmP xs f m 0 = tm0 f m by simp [tmP], atT_tm0 hf hf, if_pos rfl] at this
  exact this
/-- Each route ends not before the entry. -/
theorem tm_complete {xs : List R4} (hg : mlL xs = true) {f m : Int} {g u t v : Int} (h : Rt xs g u t v) : atT (tmV xs f m) g ≤ u → atT (tmV xs f m) t ≤ v := by
  induction h with
  | nil g u => exact id
  | cons h1 h2 h3 _ ih => intro h; subst h2; exact ih (tm_mail hg h1 (by omega))
theorem tm_le {xs : List R4} (hg : mlL xs = true) {f m : Int} (hf : 0 ≤ f ∧ f ≤ 9) {t v : Int} (h : Rt xs f m t v) : atT (tmV xs f m) t ≤ v := tm_complete hg h (tm_start hg hf)
theorem tm_self {xs : List R4} (hg : mlL xs = true) {f m : Int} (hf : 0 ≤ f ∧ f ≤ 9) (hm : 0 ≤ m ∧ m ≤ 9999) : atT (tmV xs f m) f = m := by
  have h1 := tm_start hg (m := m) hf
  have h2 := (tm_sound hg hf xs.length f hf (m := m) (by unfold tmV at h1; omega)).le (ml_all hg)
  unfold tmV at *; omega
/-- The first mail of a best route. -/
def brQ (xs : List R4) (t e f m : Int) (x : R4) : Bool := decide (x.b = f) && (decide (m ≤ x.a) && decide (atT (tmV xs x.c x.d) t = e))
theorem br_first {xs : List R4} (hg : mlL xs = true) {f m t e : Int} (hf : 0 ≤ f ∧ f ≤ 9) (hm : 0 ≤ m ∧ m ≤ 9999) (ht : 0 ≤ t ∧ t ≤ 9) (he : atT (tmV xs f m) t = e) (hne : e ≠ 10000) (hft : f ≠ t) : ∃ x ∈ xs, brQ xs t e f m x = true := by
  have hr := tm_sound hg hf xs.length t ht (m := m) (by unfold tmV at he; omega)
  rw [show atT (tmP xs f m xs.length) t = e from he] at hr
  cases hr with
  | nil => exact absurd rfl hft
  | @cons x _ _ _ _ h1 h2 h3 h4 =>
    have hb := mlB_bd (ml_all hg x h1)
    have a1 := tm_le hg hb.2.1 h4
    have a2 : atT (tmV xs x.c x.d) t ≠ 10000 := by
      have := okT_at (tmP_ok hg f hm xs.length) t
      unfold tmV at he; omega
    have a3 := tm_sound hg hb.2.1 xs.length t ht (m := x.d) a2
    have a4 := tm_le hg hf (Rt.cons h1 h2 h3 a3)
    refine ⟨x, h1, ?_⟩
    simp only [brQ, Bool.and_eq_true, decide_eq_true_eq]
    refine ⟨h2, h3, ?_⟩
    unfold tmV at *; omega
/-- L are the first mails, one by one, of a best route. -/
inductive BR (xs : List R4) (t e : Int) : Int → Int → List Int → Prop
  | nil {m : Int} : BR xs t e t m []
  | cons {f m : Int} {i : Nat} {x : R4} {L : List Int} : f ≠ t → xs[i]? = some x → brQ xs t e f m x = true → (∀ (j : Nat) (y : R4), j < i → xs[j]? = some y → brQ xs t e f m y = false) → BR xs t e x.c x.d L → BR xs t e f m ((i : Int) :: L)
theorem first_of {α : Type} {q : α → Bool} : ∀ {xs : List α}, (∃ x ∈ xs, q x = true) → ∃ (i : Nat) (x : α), xs[i]? = some x ∧ q x = true ∧ ∀ (j : Nat) (y : α), j < i → xs[j]? = some y → q y = false := by
  intro xs
  induction xs with
  | nil => rintro ⟨x, hx, -⟩; cases hx
  | cons a xs ih =>
    intro h
    cases ha : q a with
    | true => exact ⟨0, a, rfl, ha, fun j y hj => by omega⟩
    | false =>
      obtain ⟨x, hx, hq⟩ := h
      rcases List.mem_cons.1 hx with rfl | hx
      · rw [ha] at hq; cases hq
      · obtain ⟨i, y, h1, h2, h3⟩ := ih ⟨x, hx, hq⟩
        refine ⟨i + 1, y, by simpa using h1, h2, fun j z hj hz => ?_⟩
        cases j with
        | zero => simp at hz; subst hz; exact ha
        | succ j => exact h3 j z (by omega) (by simpa using hz)
theorem br_ex {xs : List R4} (hg : mlL xs = true) {t e : Int} (ht : 0 ≤ t ∧ t ≤ 9) (hne : e ≠ 10000) : ∀ (n : Nat) (f m : Int), 10000 - m ≤ n → 0 ≤ f ∧ f ≤ 9 → 0 ≤ m ∧ m ≤ 9999 → atT (tmV xs f m) t = e → ∃ L, BR xs t e f m L
  | 0, f, m, hn, hf, hm, he => by omega
  | n + 1, f, m, hn, hf, hm, he => by
    by_cases hft : f = t
    · subst hft; exact ⟨[], .nil⟩
    · obtain ⟨i, x, hx, hq, hfirst⟩ := first_of (br_first hg hf hm ht he hne hft)
      have hb := mlB_bd (mlL_at hg hx)
      have hq' := hq
      simp only [brQ, Bool.and_eq_true, decide_eq_true_eq] at hq'
      obtain ⟨L, hL⟩ := br_ex hg ht hne n x.c x.d (by omega) hb.2.1 hb.2.2.2.2 hq'.2.2
      exact ⟨_, .cons hft hx hq hfirst hL⟩
theorem BR.inv {xs : List R4} {t e f m : Int} {L : List Int} (h : BR xs t e f m L) : (f = t ∧ L = []) ∨ ∃ (i : Nat) (x : R4) (L' : List Int), f ≠ t ∧ L = (i : Int) :: L' ∧ xs[i]? = some x ∧ brQ xs t e f m x = true ∧ (∀ (j : Nat) (y : R4), j < i → xs[j]? = some y → brQ xs t e f m y = false) ∧ BR xs t e x.c x.d L' := by
  cases h with
  | nil => exact .inl ⟨rfl, rfl⟩
  | cons h1 h2 h3 h4 h5 => exact .inr ⟨_, _, _, h1, rfl, h2, h3, h4, h5⟩
theorem BR.len {xs : List R4} (hg : mlL xs = true) {t e f m : Int} {L : List Int} (h : BR xs t e f m L) : m ≤ 9999 → (L.length : Int) + m ≤ 9999 := by
  induction h with
  | nil => intro h; simpa using h
  | cons h1 h2 h3 h4 h5 ih =>
    intro _
    have hb := mlB_bd (mlL_at hg h2)
    have hq := h3
    simp only [brQ, Bool.and_eq_true, decide_eq_true_eq] at hq
    have := ih (by omega)
    simp; omega
theorem BR.idx {xs : List R4} {t e f m : Int} {L : List Int} (h : BR xs t e f m L) : ∀ i ∈ L, 0 ≤ i ∧ i < xs.length := by
  induction h with
  | nil => intro i hi; cases hi
  | cons h1 h2 h3 h4 h5 ih =>
    intro i hi
    rcases List.mem_cons.1 hi with rfl | hi
    · have := (List.getElem?_eq_some_iff.1 h2).1; omega
    · exact ih i hi
def toAt (xs : List R4) (office : Int) (i : Int) : Bool := match xs[i.toNat]? with | some x => decide (x.c = office) | none => false
theorem BR.last {xs : List R4} {t e f m : Int} {L : List Int} (h : BR xs t e f m L) : f ≠ t → L.any (toAt xs t) = true := by
  induction h with
  | nil => intro h; exact absurd rfl h
  | @cons f m i x L h1 h2 h3 h4 h5 ih =>
    intro _
    rw [List.any_cons]
    by_cases e : x.c = t
    · have : toAt xs t (i : Int) = true := by unfold toAt; rw [Int.toNat_natCast, h2]; simp [e]
      rw [this]; rfl
    · rw [ih e, Bool.or_true]
open Classical in
noncomputable def brV (xs : List R4) (t e f m : Int) : List Int := if h : ∃ L, BR xs t e f m L then Classical.choose h else []
theorem brV_br {xs : List R4} {t e f m : Int} (h : ∃ L, BR xs t e f m L) : BR xs t e f m (brV xs t e f m) := by
  unfold brV; rw [dif_pos h]; exact Classical.choose_spec h

/-! ### Covers: a is Id, b Day, c Zone, d Grams, e Paid, f From, g To, h Leave, i Arrive -/
structure R9 where
  (a b c d e f g h i : Int)
deriving DecidableEq
def cvB (x : R9) : Bool := decide ((1 ≤ x.a ∧ x.a ≤ 999) ∧ (0 ≤ x.b ∧ x.b ≤ 4000) ∧ (0 ≤ x.c ∧ x.c ≤ 9) ∧ (1 ≤ x.d ∧ x.d ≤ 2000) ∧ (1 ≤ x.e ∧ x.e ≤ 9999) ∧ (0 ≤ x.f ∧ x.f ≤ 9) ∧ (0 ≤ x.g ∧ x.g ≤ 9) ∧ x.f ≠ x.g ∧ (0 ≤ x.h ∧ x.h ≤ x.i) ∧ (0 ≤ x.i ∧ x.i ≤ 9999))
theorem cvB_bd {x : R9} (h : cvB x = true) : (1 ≤ x.a ∧ x.a ≤ 999) ∧ (0 ≤ x.b ∧ x.b ≤ 4000) ∧ (0 ≤ x.c ∧ x.c ≤ 9) ∧ (1 ≤ x.d ∧ x.d ≤ 2000) ∧ (1 ≤ x.e ∧ x.e ≤ 9999) ∧ (0 ≤ x.f ∧ x.f ≤ 9) ∧ (0 ≤ x.g ∧ x.g ≤ 9) ∧ x.f ≠ x.g ∧ (0 ≤ x.h ∧ x.h ≤ x.i) ∧ (0 ≤ x.i ∧ x.i ≤ 9999) := by simpa only [cvB, decide_eq_true_eq] using h
def cvBef (y x : R9) : Bool := !decide (x.a ≤ y.a)
def cvL (xs : List R9) : Bool := allA cvB cvBef xs && decide (xs.length ≤ 10)
theorem cvL_no {xs : List R9} {k : Nat} (hk : k < xs.length) (h : okA cvB cvBef xs k = false) : cvL xs = false := by simp [cvL, allA_no hk h]
theorem cvL_end {xs : List R9} {k n : Nat} (h : ARel cvB cvBef xs k) (hn : xs.length = n) (hk : n ≤ k) : decide ((n : Int) ≤ 10) = cvL xs := by
  rw [cvL, h.all (by omega), hn, Bool.true_and]; exact decide_eq_decide.2 (by omega)
theorem cvL_at {xs : List R9} (h : cvL xs = true) {k : Nat} {x : R9} (hx : xs[k]? = some x) : cvB x = true := by
  simp only [cvL, Bool.and_eq_true] at h; exact allA_at h.1 hx
theorem cvL_len {xs : List R9} (h : cvL xs = true) : xs.length ≤ 10 := by simp only [cvL, Bool.and_eq_true, decide_eq_true_eq] at h; exact h.2
theorem cvL_inj {xs : List R9} (h : cvL xs = true) {x y : R9} (hx : x ∈ xs) (hy : y ∈ xs) (e : x.a = y.a) : x = y := by
  simp only [cvL, Bool.and_eq_true] at h
  have key : ∀ (d i : Nat) (a b : R9), xs[i]? = some a → xs[i + (d + 1)]? = some b → a.a < b.a := by
    intro d
    induction d with
    | zero => intro i a b ha hb; have := allA_ord h.1 hb ha; simp [cvBef] at this; omega
    | succ d ih =>
      intro i a b ha hb
      have hl := (List.getElem?_eq_some_iff.1 hb).1
      obtain ⟨c, hc⟩ : ∃ c, xs[i + (d + 1)]? = some c := ⟨xs[i + (d + 1)]'(by omega), List.getElem?_eq_getElem _⟩
      have h3 := ih i a c ha hc
      have h4 := allA_ord h.1 (k := i + (d + 1)) (x := b) (y := c) hb hc
      simp [cvBef] at h4; omega
  obtain ⟨i, hi⟩ := List.mem_iff_getElem?.1 hx
  obtain ⟨j, hj⟩ := List.mem_iff_getElem?.1 hy
  rcases Nat.lt_trichotomy i j with hlt | heq | hlt
  · have := key (j - i - 1) i x y hi (by rw [show i + (j - i - 1 + 1) = j by omega]; exact hj); omega
  · subst heq; rw [hi] at hj; injection hj
  · have := key (i - j - 1) j y x hj (by rw [show j + (i - j - 1 + 1) = i by omega]; exact hi); omega

def fltV (cents at_ paid arrive : Int) : Int := if cents = 0 then 1 else if paid < cents then 2 else if 2 * cents < paid then 3 else if at_ = 10000 then 4 else if arrive < at_ then 5 else 0
def cvF (rs : List R5) (ms : List R4) (x : R9) : Int := fltV (rtFor rs x.b x.c x.d) (atT (tmV ms x.f x.h) x.g) x.e x.i
theorem cvF_bd (rs : List R5) (ms : List R4) (x : R9) : 0 ≤ cvF rs ms x ∧ cvF rs ms x ≤ 5 := by
  unfold cvF fltV; repeat' split
  all_goals omega
def tcB (rs : List R5) (ms : List R4) (xs : List R9) : Bool := rtL rs && (mlL ms && cvL xs)
def tcP (rs : List R5) (ms : List R4) (xs : List R9) (k : Nat) : List Int := ((xs.take k).filter (fun x => decide (cvF rs ms x = 0))).map (·.a)
def tcV (rs : List R5) (ms : List R4) (xs : List R9) : List Int := if tcB rs ms xs = true then tcP rs ms xs xs.length else []
theorem tcP_step {rs : List R5} {ms : List R4} {xs : List R9} {k : Nat} {x : R9} (h : xs[k]? = some x) : tcP rs ms xs (k + 1) = tcP rs ms xs k ++ (if cvF rs ms x = 0 then [x.a] else []) := by
  unfold tcP
  rw [List.take_add_one, h, List.filter_append, List.map_append]
  by_cases e : cvF rs ms x = 0
  · simp [e]
  · simp [e]
theorem tcP_len (rs : List R5) (ms : List R4) (xs : List R9) (k : Nat) : (tcP rs ms xs k).length ≤ k := by
  unfold tcP
  rw [List.length_map]
  exact Nat.le_trans (List.length_filter_le _ _) (by rw [List.length_take]; omega)
theorem tcV_len (rs : List R5) (ms : List R4) (xs : List R9) : (tcV rs ms xs).length ≤ xs.length := by
  unfold tcV; split
  · exact tcP_len _ _ _ _
  · simp
/-- How many have each fault. -/
def fcP (rs : List R5) (ms : List R4) (xs : List R9) (k : Nat) : List Int := (List.range 6).map (fun (j : Nat) => (((xs.take k).filter (fun x => decide (cvF rs ms x = (j : Int)))).length : Int))
def fcV (rs : List R5) (ms : List R4) (xs : List R9) : List Int := if tcB rs ms xs = true then fcP rs ms xs xs.length else [0, 0, 0, 0, 0, 0]
theorem fcP_len (rs : List R5) (ms : List R4) (xs : List R9) (k : Nat) : (fcP rs ms xs k).length = 6 := by simp [fcP]
theorem fcP_zero (rs : List R5) (ms : List R4) (xs : List R9) : fcP rs ms xs 0 = [0, 0, 0, 0, 0, 0] := by simp [fcP, List.range_succ]
theorem fcP_step {rs : List R5} {ms : List R4} {xs : List R9} {k : Nat} {x : R9} (h : xs[k]? = some x) :
    ∃ v : Int, (fcP rs ms xs k)[(cvF rs ms x).toNat]? = some v ∧ (0 ≤ v ∧ v ≤ k) ∧ fcP rs ms xs (k + 1) = (fcP rs ms xs k).set (cvF rs ms x).toNat (v + 1) := by
  have hb := cvF_bd rs ms x
  obtain ⟨i, hi⟩ : ∃ i, i = (cvF rs ms x).toNat := ⟨_, rfl⟩
  have hi6 : i < 6 := by omega
  have hc : cvF rs ms x = (i : Int) := by omega
  rw [← hi]
  refine ⟨(((xs.take k).filter (fun x => decide (cvF rs ms x = (i : Int)))).length : Int), by unfold fcP; rw [List.getElem?_map, List.getElem?_range hi6]; rfl, ⟨by omega, ?_⟩, ?_⟩
  · have := List.length_filter_le (fun y => decide (cvF rs ms y = (i : Int))) (xs.take k)
    rw [List.length_take] at this; omega
  · apply List.ext_getElem?
    intro j
    unfold fcP
    by_cases hj : j < 6
    · rw [List.getElem?_map, List.getElem?_range hj, Option.map_some, List.take_add_one, h, List.filter_append]
      by_cases e : j = i
      · subst e
        rw [List.getElem?_set_self (by simp; omega)]
        simp [hc]
      · rw [List.getElem?_set_ne (by omega), List.getElem?_map, List.getElem?_range hj]
        have e2 : decide (cvF rs ms x = (j : Int)) = false := by simp; omega
        simp [List.filter_cons, e2]
    · rw [List.getElem?_eq_none (by simp; omega), List.getElem?_eq_none (by simp; omega)]
theorem fcV_len (rs : List R5) (ms : List R4) (xs : List R9) : (fcV rs ms xs).length = 6 := by unfold fcV; split <;> simp [fcP]
theorem fc_zero {rs : List R5} {ms : List R4} {xs : List R9} (h : tcB rs ms xs = true) : (fcV rs ms xs)[0]? = some ((tcV rs ms xs).length : Int) := by
  rw [fcV, tcV, if_pos h, if_pos h]
  simp [fcP, tcP, List.range_succ]
theorem sum_set {L : List Int} {i : Nat} {v w : Int} (h : L[i]? = some v) : (L.set i w).sum = L.sum - v + w := by
  induction L generalizing i with
  | nil => simp at h
  | cons a L ih =>
    cases i with
    | zero => simp at h; subst h; simp; omega
    | succ i => have := ih (i := i) (by simpa using h); simp [List.set]; omega
theorem fcP_sum (rs : List R5) (ms : List R4) (xs : List R9) : ∀ k, k ≤ xs.length → (fcP rs ms xs k).sum = (k : Int)
  | 0, _ => by rw [fcP_zero]; rfl
  | k + 1, h => by
    obtain ⟨x, hx⟩ : ∃ x, xs[k]? = some x := ⟨_, List.getElem?_eq_getElem (by omega)⟩
    obtain ⟨v, h1, -, h2⟩ := fcP_step (rs := rs) (ms := ms) hx
    rw [h2, sum_set h1, fcP_sum rs ms xs k (by omega)]; omega
theorem fc_sum {rs : List R5} {ms : List R4} {xs : List R9} (h : tcB rs ms xs = true) : (fcV rs ms xs).sum = (xs.length : Int) := by
  rw [fcV, if_pos h]; exact fcP_sum rs ms xs _ (Nat.le_refl _)
theorem fcV_bd (rs : List R5) (ms : List R4) (xs : List R9) : ∀ v ∈ fcV rs ms xs, 0 ≤ v ∧ v ≤ xs.length := by
  intro v hv
  unfold fcV at hv
  split at hv
  · unfold fcP at hv
    simp only [List.mem_map] at hv
    obtain ⟨j, -, rfl⟩ := hv
    have := List.length_filter_le (fun y => decide (cvF rs ms y = (j : Int))) (xs.take xs.length)
    rw [List.take_length] at this ⊢
    omega
  · simp at hv; omega

/-! ### By way of an office -/
def roB (ms : List R4) (x : R9) : Bool := decide (atT (tmV ms x.f x.h) x.g ≤ x.i)
noncomputable def roV (ms : List R4) (x : R9) : List Int := if roB ms x = true then brV ms x.g (atT (tmV ms x.f x.h) x.g) x.f x.h else []
theorem ro_br {ms : List R4} {x : R9} (hg : mlL ms = true) (hx : cvB x = true) (h : roB ms x = true) : BR ms x.g (atT (tmV ms x.f x.h) x.g) x.f x.h (roV ms x) := by
  have hb := cvB_bd hx
  have h' := of_decide_eq_true h
  rw [roV, if_pos h]
  exact brV_br (br_ex hg (by omega) (by omega) (10000 - x.h).toNat x.f x.h (by omega) (by omega) (by omega) rfl)
noncomputable def viQ (ms : List R4) (office : Int) (x : R9) : Bool := (roV ms x).any (toAt ms office)
def viB (ms : List R4) (xs : List R9) (office : Int) : Bool := mlL ms && (cvL xs && inR office 0 9)
noncomputable def viP (ms : List R4) (xs : List R9) (office : Int) (k : Nat) : List Int := ((xs.take k).filter (viQ ms office)).map (·.a)
noncomputable def viV (ms : List R4) (xs : List R9) (office : Int) : List Int := if viB ms xs office = true then viP ms xs office xs.length else []
theorem viP_step {ms : List R4} {xs : List R9} {office : Int} {k : Nat} {x : R9} (h : xs[k]? = some x) : viP ms xs office (k + 1) = viP ms xs office k ++ (if viQ ms office x = true then [x.a] else []) := by
  unfold viP
  rw [List.take_add_one, h, List.filter_append, List.map_append]
  by_cases e : viQ ms office x = true
  · simp [e]
  · simp [e]
theorem viP_len (ms : List R4) (xs : List R9) (office : Int) (k : Nat) : (viP ms xs office k).length ≤ k := by
  unfold viP
  rw [List.length_map]
  exact Nat.le_trans (List.length_filter_le _ _) (by rw [List.length_take]; omega)
theorem viV_len (ms : List R4) (xs : List R9) (office : Int) : (viV ms xs office).length ≤ xs.length := by
  unfold viV; split
  · exact viP_len _ _ _ _
  · simp
def rnB (ms : List R4) (x : R9) : Bool := mlL ms && (cvB x && roB ms x)
/-- What the law asks: a cover to the office that has a route is told; one without a route is not. -/
theorem vi_fact {ms : List R4} {xs : List R9} {office : Int} (h : viB ms xs office = true) {x : R9} (hx : x ∈ xs) :
    (rnB ms x = true → x.g = office → (viV ms xs office).elem x.a = true) ∧ (rnB ms x = false → (viV ms xs office).elem x.a = false) := by
  have h' := h
  simp only [viB, Bool.and_eq_true] at h'
  obtain ⟨hg, hc, -⟩ := h'
  obtain ⟨k, hk⟩ := List.mem_iff_getElem?.1 hx
  have hB := cvL_at hc hk
  have hb := cvB_bd hB
  have hrn : rnB ms x = roB ms x := by rw [rnB, hg, hB]; rfl
  rw [hrn]
  constructor
  · intro hr he
    have hq : viQ ms office x = true := by
      unfold viQ
      subst he
      exact (ro_br hg hB hr).last hb.2.2.2.2.2.2.2.1
    rw [List.elem_eq_true_of_mem]
    rw [viV, if_pos h, viP, List.take_length]
    exact List.mem_map.2 ⟨x, List.mem_filter.2 ⟨hx, hq⟩, rfl⟩
  · intro hr
    rw [Bool.eq_false_iff]
    intro he
    have hm := List.mem_of_elem_eq_true he
    rw [viV, if_pos h, viP, List.take_length] at hm
    obtain ⟨y, hy, e⟩ := List.mem_map.1 hm
    obtain ⟨hy1, hy2⟩ := List.mem_filter.1 hy
    obtain rfl := cvL_inj hc hy1 hx e
    unfold viQ roV at hy2
    rw [hr] at hy2
    simp at hy2
end Go.Proofs.Ytobloedpmjkgpaa
