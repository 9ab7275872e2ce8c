/- A drawn region by what holds at any time in it: for regions whose operations yield other values in other orders. -/
import Derived.Test.YtjnbcippipookaaBase
namespace Go.Proofs.Ytjnbcippipookaa
set_option linter.unusedVariables false
set_option linter.unusedSimpArgs false
open Go.RowKit

/-- The place of an operation's value. -/
def dstO (l : List Oper) (i : Nat) : Option Tmp := (l[i]?).bind (·.dst)
/-- The frame behind the first i operations, in the order of the text. -/
def preF (l : List Oper) (a : Act) (vals : Nat → Value) : Nat → Act
  | 0 => a
  | i + 1 => (preF l a vals i).put (dstO l i) (vals i)
/-- One more operation has come up, with a value. -/
def updM (m : Nat → Option Value) (i : Nat) (v : Value) : Nat → Option Value := fun j => if j = i then some v else m j
theorem updM_self (m : Nat → Option Value) (i : Nat) (v : Value) : updM m i v i = some v := by simp [updM]
theorem updM_ne {m : Nat → Option Value} {i j : Nat} {v : Value} (h : j ≠ i) : updM m i v j = m j := by simp [updM, h]
def isTmp (d : Tmp) : Operand → Bool
  | .tmp t => t == d
  | _ => false
/-- No guards, no selects; each operation waits for earlier ones alone, and reads of the region only what it waits for; every value has a place of its own. -/
def regB (l : List Oper) : Bool :=
  (List.range l.length).all fun (i : Nat) => match l[i]? with
    | none => true
    | some (o : Oper) => o.guard.isNone && ((match o.op with | .select _ _ => false | _ => true) && (o.after.all (fun e => decide (e.on < i)) &&
        (List.range l.length).all (fun (j : Nat) => match dstO l j with
          | none => true
          | some d => (decide (i = j) || (dstO l i != some d)) && (!(o.op.operands.toList.any (isTmp d)) || o.after.any (fun e => decide (e.on = j) && Region.binds .any e)))))
structure RegP (l : List Oper) : Prop where
  guard : ∀ (i : Nat) (o : Oper), l[i]? = some o → o.guard = none
  sel : ∀ (i : Nat) (o : Oper) (cs : Array SelectCase) (b : Bool), l[i]? = some o → o.op ≠ .select cs b
  back : ∀ (i : Nat) (o : Oper), l[i]? = some o → ∀ e ∈ o.after, e.on < i
  own : ∀ (i j : Nat) (d : Tmp), i ≠ j → i < l.length → j < l.length → dstO l j = some d → dstO l i ≠ some d
  reads : ∀ (i : Nat) (o : Oper) (j : Nat) (d : Tmp), l[i]? = some o → j < l.length → dstO l j = some d → Operand.tmp d ∈ o.op.operands → ∃ e ∈ o.after, e.on = j ∧ Region.binds .any e = true
theorem RegP.of {l : List Oper} (h : regB l = true) : RegP l := by
  unfold regB at h
  rw [List.all_eq_true] at h
  have key : ∀ (i : Nat) (o : Oper), l[i]? = some o → o.guard.isNone = true ∧ (match o.op with | .select _ _ => false | _ => true) = true ∧ (∀ e ∈ o.after, e.on < i) ∧ ∀ (j : Nat) (d : Tmp), j < l.length → dstO l j = some d → (i = j ∨ dstO l i ≠ some d) ∧ (o.op.operands.toList.any (isTmp d) = false ∨ o.after.any (fun e => decide (e.on = j) && Region.binds .any e) = true) := by
    intro i o hi
    have h1 := h i (List.mem_range.2 (List.getElem?_eq_some_iff.1 hi).1)
    simp only [hi, Bool.and_eq_true] at h1
    obtain ⟨h1, h2, h3, h4⟩ := h1
    rw [Array.all_eq_true_iff_forall_mem] at h3
    rw [List.all_eq_true] at h4
    refine ⟨h1, h2, fun e he => by simpa using h3 e he, fun j d hj hd => ?_⟩
    have h5 := h4 j (List.mem_range.2 hj)
    simp only [hd, Bool.and_eq_true, Bool.or_eq_true, decide_eq_true_eq, bne_iff_ne, Bool.not_eq_true'] at h5
    exact h5
  refine ⟨fun i o hi => by simpa using (key i o hi).1, fun i o cs b hi he => by have := (key i o hi).2.1; rw [he] at this; simp at this, fun i o hi => (key i o hi).2.2.1, fun i j d hij hi hj hd => ?_, fun i o j d hi hj hd hm => ?_⟩
  · rcases ((key i l[i] (List.getElem?_eq_getElem hi)).2.2.2 j d hj hd).1 with e | e
    · exact absurd e hij
    · exact e
  · rcases ((key i o hi).2.2.2 j d hj hd).2 with e | e
    · rw [List.any_eq_false] at e
      have := e _ (Array.mem_toList_iff.2 hm)
      simp [isTmp] at this
    · obtain ⟨k, hk, hh⟩ := Array.any_eq_true.1 e
      simp only [Bool.and_eq_true, decide_eq_true_eq] at hh
      exact ⟨o.after[k], Array.getElem_mem hk, hh.1, hh.2⟩

/-- The frame holds the values of the operations that have come up, and is else as it was. -/
structure Agr (l : List Oper) (a : Act) (m : Nat → Option Value) (b : Act) : Prop where
  dfr : b.defers = a.defers
  size : b.tmps.size = a.tmps.size
  out : ∀ t, (∀ j v, m j = some v → dstO l j ≠ some t) → b.tmps[t]? = a.tmps[t]?
  inn : ∀ j v t, m j = some v → dstO l j = some t → t < a.tmps.size → b.tmps[t]? = some v
theorem Agr.start (l : List Oper) (a : Act) : Agr l a (fun _ => none) a := ⟨rfl, rfl, fun _ _ => rfl, fun j v t h => by cases h⟩
theorem Agr.uniq {l : List Oper} {a b b' : Act} {m : Nat → Option Value} (h : Agr l a m b) (h' : Agr l a m b') : b = b' := by
  have e1 : b.tmps = b'.tmps := by
    apply Array.ext_getElem?
    intro t
    by_cases ht : t < a.tmps.size
    · by_cases hx : ∃ j v, m j = some v ∧ dstO l j = some t
      · obtain ⟨j, v, h1, h2⟩ := hx
        rw [h.inn j v t h1 h2 ht, h'.inn j v t h1 h2 ht]
      · have : ∀ j v, m j = some v → dstO l j ≠ some t := fun j v h1 h2 => hx ⟨j, v, h1, h2⟩
        rw [h.out t this, h'.out t this]
    · rw [Array.getElem?_eq_none (by have := h.size; omega), Array.getElem?_eq_none (by have := h'.size; omega)]
  have e2 : b.defers = b'.defers := h.dfr.trans h'.dfr.symm
  cases b; cases b'
  simp only at e1 e2
  subst e1; subst e2; rfl
theorem Agr.put {l : List Oper} {a b : Act} {m : Nat → Option Value} {i : Nat} (h : Agr l a m b) (hl : RegP l) (hm : ∀ j, l.length ≤ j → m j = none) (hi : m i = none) (hil : i < l.length) (v : Value) : Agr l a (updM m i v) (b.put (dstO l i) v) := by
  cases hd : dstO l i with
  | none =>
    refine ⟨h.dfr, h.size, fun t ht => h.out t (fun j u hj => ht j u ?_), fun j u t hj hdj ht => ?_⟩
    · by_cases e : j = i
      · subst e; rw [hi] at hj; cases hj
      · rw [updM_ne e]; exact hj
    · by_cases e : j = i
      · subst e; rw [hd] at hdj; cases hdj
      · rw [updM_ne e] at hj; exact h.inn j u t hj hdj ht
  | some d =>
    refine ⟨h.dfr, by simp [Act.put, h.size], fun t ht => ?_, fun j u t hj hdj ht => ?_⟩
    · have hne : d ≠ t := fun e => ht i v (updM_self _ _ _) (by rw [hd, e])
      simp only [Act.put]
      rw [Array.getElem?_setIfInBounds_ne hne]
      refine h.out t (fun j u hj => ht j u ?_)
      by_cases e : j = i
      · subst e; rw [hi] at hj; cases hj
      · rw [updM_ne e]; exact hj
    · by_cases e : j = i
      · subst e
        rw [updM_self] at hj; injection hj with hj; subst hj
        rw [hd] at hdj; injection hdj with hdj; subst hdj
        simp only [Act.put]
        rw [Array.getElem?_setIfInBounds_self, if_pos (by rw [h.size]; exact ht)]
      · rw [updM_ne e] at hj
        have hjl : j < l.length := by
          rcases Nat.lt_or_ge j l.length with hjl | hjl
          · exact hjl
          · rw [hm j hjl] at hj; cases hj
        have hne : d ≠ t := fun e2 => by
          subst e2
          exact hl.own j i d e hjl hil hd hdj
        simp only [Act.put]
        rw [Array.getElem?_setIfInBounds_ne hne]
        exact h.inn j u t hj hdj ht
theorem Agr.pre {l : List Oper} (hl : RegP l) (a : Act) (vals : Nat → Value) : ∀ i, i ≤ l.length → Agr l a (fun j => if j < i then some (vals j) else none) (preF l a vals i)
  | 0, _ => by
    have e : (fun j : Nat => if j < 0 then some (vals j) else none) = fun _ => none := by funext j; simp
    rw [e]; exact Agr.start l a
  | i + 1, hi => by
    have h := (Agr.pre hl a vals i (by omega)).put hl (i := i) (fun j hj => if_neg (by omega)) (if_neg (by omega)) (by omega) (vals i)
    have e : updM (fun j => if j < i then some (vals j) else none) i (vals i) = fun j => if j < i + 1 then some (vals j) else none := by
      funext j
      unfold updM
      by_cases e : j = i
      · subst e; simp
      · rw [if_neg e]
        show (if j < i then some (vals j) else none) = if j < i + 1 then some (vals j) else none
        by_cases hj : j < i
        · rw [if_pos hj, if_pos (show j < i + 1 by omega)]
        · rw [if_neg hj, if_neg (show ¬ j < i + 1 by omega)]
    rw [e] at h
    exact h
/-- The frame holds the value at the place. -/
def holdsT (b : Act) : Option Tmp → Value → Prop
  | none, _ => True
  | some d, v => b.tmps[d]? = some v
theorem put_holds {b c : Act} {x : Option Tmp} {v v' : Value} (hs : c.tmps.size = b.tmps.size) (h : holdsT (c.put x v) x v') : b.put x v = b.put x v' := by
  cases x with
  | none => rfl
  | some d =>
    simp only [holdsT, Act.put] at h
    by_cases hd : d < c.tmps.size
    · rw [Array.getElem?_setIfInBounds_self, if_pos hd] at h
      injection h with h; rw [h]
    · have hle : b.tmps.size ≤ d := by rw [← hs]; exact Nat.le_of_not_lt hd
      simp only [Act.put]
      rw [Array.setIfInBounds_eq_of_size_le hle, Array.setIfInBounds_eq_of_size_le hle]
theorem put_same {b c : Act} {x : Option Tmp} {v v' : Value} (hs : c.tmps.size = b.tmps.size) (h : c.put x v = c.put x v') : b.put x v = b.put x v' := by
  cases x with
  | none => rfl
  | some d =>
    by_cases hd : d < c.tmps.size
    · have h1 := congrArg (fun q : Act => q.tmps[d]?) h
      simp only [Act.put] at h1
      rw [Array.getElem?_setIfInBounds_self, Array.getElem?_setIfInBounds_self, if_pos hd, if_pos hd] at h1
      injection h1 with h1
      rw [h1]
    · simp only [Act.put]
      have hle : b.tmps.size ≤ d := by rw [← hs]; exact Nat.le_of_not_lt hd
      rw [Array.setIfInBounds_eq_of_size_le hle, Array.setIfInBounds_eq_of_size_le hle]

theorem countP_less {p q : Nat → Bool} : ∀ {L : List Nat}, (∀ x ∈ L, q x = true → p x = true) → (∃ x ∈ L, p x = true ∧ q x = false) → L.countP q + 1 ≤ L.countP p
  | [], _, h => by obtain ⟨x, hx, _⟩ := h; cases hx
  | y :: L, hm, h => by
    rw [List.countP_cons, List.countP_cons]
    have hm' : ∀ x ∈ L, q x = true → p x = true := fun x hx => hm x (List.mem_cons_of_mem _ hx)
    by_cases hy : p y = true ∧ q y = false
    · have := List.countP_mono_left hm'
      rw [hy.1, hy.2]
      simp; omega
    · obtain ⟨x, hx, h1, h2⟩ := h
      rcases List.mem_cons.1 hx with rfl | hx
      · exact absurd ⟨h1, h2⟩ hy
      · have ih := countP_less hm' ⟨x, hx, h1, h2⟩
        have h3 := hm y (List.mem_cons_self ..)
        cases hq : q y with
        | false => simp only [Bool.false_eq_true, if_false]; split <;> omega
        | true => rw [h3 hq]; simp; omega

section
variable {P : Program} {l : List Oper} {a : Act} {Q : Exit → Act → World → Prop} {I : (Nat → Option Value) → World → Prop}
theorem all_listed (hl : RegP l) {listed : Array Bool} {m : Nat → Option Value} (hsz : listed.size = l.length) (hlm : ∀ j (h : j < listed.size), listed[j] = (m j).isSome) (hr : Region.ready .any l.toArray listed = []) : ∀ j, j < l.length → (m j).isSome = true := by
  intro j
  induction j using Nat.strongRecOn with
  | ind j ih =>
    intro hj
    cases hs : (m j).isSome with
    | true => rfl
    | false =>
      have : j ∈ Region.ready .any l.toArray listed := by
        refine mem_ready.2 ⟨?_, l[j], by simp [hj], fun e he _ => ?_⟩
        · rw [Array.getD_eq_getD_getElem?, Array.getElem?_eq_getElem (by omega), Option.getD_some, hlm j (by omega), hs]
        · have hlt := hl.back j l[j] (List.getElem?_eq_getElem hj) e he
          rw [Array.getD_eq_getD_getElem?, Array.getElem?_eq_getElem (by omega), Option.getD_some, hlm _ (by omega), ih _ hlt (by omega)]
      rw [hr] at this; cases this
theorem wpAny_inv (hl : RegP l)
    (hstep : ∀ (i : Nat) (o : Oper), l[i]? = some o → ∀ (m : Nat → Option Value) (vals : Nat → Value) (u : World), I m u → m i = none → (∀ e ∈ o.after, Region.binds .any e = true → m e.on = some (vals e.on)) →
      ∀ (K : Act → World → Prop) (Q' : Exit → Act → World → Prop), (∀ b v u', b.defers = a.defers → holdsT b o.dst v → I (updM m i v) u' → K b u') → o.wp P (preF l a vals i) u K Q')
    (hend : ∀ (vals : Nat → Value) (u : World), I (fun j => if j < l.length then some (vals j) else none) u → Q .normal (preF l a vals l.length) u) :
    ∀ (fuel : Nat) (listed : Array Bool) (m : Nat → Option Value) (b : Act) (u : World), listed.size = l.length → (∀ j (h : j < listed.size), listed[j] = (m j).isSome) → (∀ j, l.length ≤ j → m j = none) → Agr l a m b → I m u →
      (List.range l.length).countP (fun j => (m j).isNone) ≤ fuel → wpAny P .any l.toArray Q fuel listed b u := by
  have hdone : ∀ (listed : Array Bool) (m : Nat → Option Value) (b : Act) (u : World), (∀ j, l.length ≤ j → m j = none) → Agr l a m b → I m u → (∀ j, j < l.length → (m j).isSome = true) → Q .normal b u := by
    intro listed m b u hm hag hI hall
    have e : m = fun j => if j < l.length then some ((m j).getD undef) else none := by
      funext j
      by_cases hj : j < l.length
      · rw [if_pos hj]
        have := hall j hj
        cases h : m j with
        | none => rw [h] at this; cases this
        | some v => rfl
      · rw [if_neg hj]; exact hm j (by omega)
    have hp := Agr.pre hl a (fun j => (m j).getD undef) l.length (Nat.le_refl _)
    rw [← e] at hp
    rw [hag.uniq hp]
    refine hend _ _ ?_
    rw [← e]; exact hI
  intro fuel
  induction fuel with
  | zero =>
    intro listed m b u hsz hlm hm hag hI hc
    have hall : ∀ j, j < l.length → (m j).isSome = true := fun j hj => by
      have h0 : (List.range l.length).countP (fun j => (m j).isNone) = 0 := by omega
      rw [List.countP_eq_zero] at h0
      have := h0 j (List.mem_range.2 hj)
      cases h : m j with
      | none => rw [h] at this; simp at this
      | some v => rfl
    refine ⟨List.eq_nil_iff_forall_not_mem.2 fun j hj => ?_, hdone listed m b u hm hag hI hall⟩
    obtain ⟨h1, o, h2, -⟩ := mem_ready.1 hj
    have hjl : j < l.length := by
      have := (Array.getElem?_eq_some_iff.1 h2).1
      simpa using this
    rw [Array.getD_eq_getD_getElem?, Array.getElem?_eq_getElem (by omega), Option.getD_some, hlm j (by omega), hall j hjl] at h1
    cases h1
  | succ fuel ih =>
    intro listed m b u hsz hlm hm hag hI hc
    refine ⟨fun hr => hdone listed m b u hm hag hI (all_listed hl hsz hlm hr), fun i hi => ?_⟩
    obtain ⟨h1, o, h2, h3⟩ := mem_ready.1 hi
    have hil : i < l.length := by
      have := (Array.getElem?_eq_some_iff.1 h2).1
      simpa using this
    have ho : l[i]? = some o := by simpa using h2
    have hmi : m i = none := by
      rw [Array.getD_eq_getD_getElem?, Array.getElem?_eq_getElem (by omega), Option.getD_some, hlm i (by omega)] at h1
      cases h : m i with
      | none => rfl
      | some v => rw [h] at h1; cases h1
    have hdst : dstO l i = o.dst := by simp [dstO, ho]
    have hdeps : ∀ e ∈ o.after, Region.binds .any e = true → m e.on = some ((m e.on).getD undef) := fun e he hb => by
      have h4 := h3 e he hb
      have hlt := hl.back i o ho e he
      rw [Array.getD_eq_getD_getElem?, Array.getElem?_eq_getElem (by omega), Option.getD_some, hlm _ (by omega)] at h4
      cases h : m e.on with
      | none => rw [h] at h4; cases h4
      | some v => rfl
    obtain ⟨c, hc'⟩ : ∃ c, c = preF l a (fun j => (m j).getD undef) i := ⟨_, rfl⟩
    have hpre := Agr.pre hl a (fun j => (m j).getD undef) i (by omega)
    rw [← hc'] at hpre
    have hev : execOp b.eval o = execOp c.eval o := by
      refine execOp_congr o (fun cs bb => hl.sel i o cs bb ho) fun x hx => ?_
      cases x with
      | tmp t =>
        simp only [Act.eval]
        rw [Array.getD_eq_getD_getElem?, Array.getD_eq_getD_getElem?]
        congr 1
        by_cases ht : t < a.tmps.size
        · by_cases hx2 : ∃ j, j < l.length ∧ dstO l j = some t
          · obtain ⟨j, hj, hjd⟩ := hx2
            obtain ⟨e, he, hej, hbe⟩ := hl.reads i o j t ho hj hjd hx
            have h5 := hdeps e he hbe
            have h6 := hl.back i o ho e he
            rw [hej] at h5 h6
            rw [hag.inn j _ t h5 hjd ht, hpre.inn j _ t (if_pos h6) hjd ht]
          · rw [hag.out t (fun j v hj hjd => ?_), hpre.out t (fun j v hj hjd => ?_)]
            · by_cases hji : j < i
              · exact hx2 ⟨j, by omega, hjd⟩
              · rw [if_neg hji] at hj; cases hj
            · rcases Nat.lt_or_ge j l.length with hjl | hjl
              · exact hx2 ⟨j, hjl, hjd⟩
              · rw [hm j hjl] at hj; cases hj
        · rw [Array.getElem?_eq_none (show b.tmps.size ≤ t by rw [hag.size]; exact Nat.le_of_not_lt ht), Array.getElem?_eq_none (show c.tmps.size ≤ t by rw [hpre.size]; exact Nat.le_of_not_lt ht)]
      | _ => rfl
    have hnext : ∀ (v : Value) (u' : World), I (updM m i v) u' → wpAny P .any l.toArray Q fuel (listed.setIfInBounds i true) (b.put o.dst v) u' := by
      intro v u' hI'
      rw [← hdst]
      refine ih _ (updM m i v) _ _ (by simpa using hsz) (fun j hj => ?_) (fun j hj => ?_) (hag.put hl hm hmi hil v) hI' ?_
      · have hj' : j < listed.size := by simpa using hj
        rw [Array.getElem_setIfInBounds hj']
        by_cases e : i = j
        · subst e; rw [if_pos rfl, updM_self]; rfl
        · rw [if_neg e, updM_ne (fun e2 => e e2.symm)]; exact hlm j hj'
      · rw [updM_ne (by omega)]; exact hm j hj
      · have := countP_less (L := List.range l.length) (p := fun j => (m j).isNone) (q := fun j => (updM m i v j).isNone) (fun x _ hx => by
          by_cases e : x = i
          · subst e; simp [hmi]
          · simpa [updM_ne e] using hx) ⟨i, List.mem_range.2 hil, by simp [hmi], by simp [updM_self]⟩
        omega
    have hkey := hstep i o ho m (fun j => (m j).getD undef) u hI hmi hdeps (fun c' u' => ∃ v, c'.defers = a.defers ∧ holdsT c' o.dst v ∧ I (updM m i v) u') (fun _ _ _ => False) (fun b v u' h1 h2 h3 => ⟨v, h1, h2, h3⟩)
    rw [← hc'] at hkey
    have hsame : ∀ v v', holdsT (c.put o.dst v) o.dst v' → b.put o.dst v = b.put o.dst v' := fun v v' h => put_holds (by rw [hpre.size, hag.size]) h
    unfold wpOp
    simp only [h2]
    rw [if_pos (by simp [Region.wanted, hl.guard i o ho])]
    left
    unfold Oper.wp at hkey ⊢
    rw [hev]
    generalize (execOp c.eval o).run P u = r at hkey ⊢
    cases r with
    | ok n w' =>
      cases n <;> simp only [Oper.upon] at hkey ⊢
      case value v =>
        obtain ⟨v', -, he, hI'⟩ := hkey
        rw [hsame v v' he]; exact hnext v' w' hI'
      case skip =>
        obtain ⟨v', -, he, hI'⟩ := hkey
        rw [hsame undef v' he]; exact hnext v' w' hI'
      case defer d =>
        obtain ⟨v', he, -, -⟩ := hkey
        exfalso
        have h2 : ∀ (q : Act) (x : Option Tmp) (z : Value), (q.put x z).defers = q.defers := fun q x z => by cases x <;> rfl
        rw [h2, ← hpre.dfr] at he
        have := congrArg List.length he
        simp at this
      case enter f args =>
        refine Calls.mono hkey fun e w'' he => ?_
        cases e with
        | returned v =>
          obtain ⟨v', -, he, hI'⟩ := he
          show wpAny P .any l.toArray Q fuel (listed.setIfInBounds i true) (b.put o.dst v) w''
          rw [hsame v v' he]; exact hnext v' w'' hI'
        | panicked c => exact False.elim he
        | outgrown => obtain ⟨_, _, h⟩ := he; exact False.elim h
      case row row args =>
        refine Rows.mono hkey fun v w'' he => ?_
        obtain ⟨v', -, he, hI'⟩ := he
        rw [hsame v v' he]; exact hnext v' w'' hI'
    | halt x w' =>
      cases x <;> simp only [Oper.upon] at hkey
theorem wp_region_inv {id : Nat} {w : World} (hm : P.follows .mixedOrders = true) (hB : regB l = true) (I : (Nat → Option Value) → World → Prop) (h0 : I (fun _ => none) w.drew)
    (hstep : ∀ (i : Nat) (o : Oper), l[i]? = some o → ∀ (m : Nat → Option Value) (vals : Nat → Value) (u : World), I m u → m i = none → (∀ e ∈ o.after, Region.binds .any e = true → m e.on = some (vals e.on)) →
      ∀ (K : Act → World → Prop) (Q' : Exit → Act → World → Prop), (∀ b v u', b.defers = a.defers → holdsT b o.dst v → I (updM m i v) u' → K b u') → o.wp P (preF l a vals i) u K Q')
    (hend : ∀ (vals : Nat → Value) (u : World), I (fun j => if j < l.length then some (vals j) else none) u → Q .normal (preF l a vals l.length) u) :
    (Code.region id l.toArray true).wp P Q a w := by
  refine wp_region_any hm ?_
  refine wpAny_inv (RegP.of hB) hstep hend _ _ (fun _ => none) a _ (by simp) (fun j hj => by simp) (fun _ _ => rfl) (Agr.start l a) h0 ?_
  simp
end
end Go.Proofs.Ytjnbcippipookaa
