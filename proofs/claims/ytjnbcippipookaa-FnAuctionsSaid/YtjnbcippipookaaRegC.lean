/- A drawn region that draws numbers by the cursor in any order, and stores a struct of them at its end. -/
import Derived.Test.YtjnbcippipookaaReg
import Derived.Test.YtjnbcippipookaaCurL
namespace Go.Proofs.Ytjnbcippipookaa
set_option linter.unusedVariables false
set_option linter.unusedSimpArgs false
open Go.RowKit

/-- What an operation of a kind yields: 0 the cursor's address, 1 a list of numbers, 2 a number, 3 the address of a struct, 4 four numbers. -/
def VK (p xb : Nat) (L M : Value) (q : Addr) : Nat → Value → World → Prop
  | 0, v, _ => v = .pointer (some ⟨p, 0, none⟩)
  | 1, v, u => ∃ A n c zs, v = .slice A n c ∧ zs.length = n ∧ 1 ≤ n ∧ n ≤ 1000 ∧ Rd u A (cells1 zs) ∧ ∀ g o q, A = some ⟨g, o, q⟩ → g ≠ p
  | 2, v, _ => ∃ z : Int, v = .int .i64 z
  | 3, v, _ => v = .pointer (some ⟨xb, 0, none⟩)
  | 4, v, _ => ∃ a b c d : Int, v = .agg #[.int .i64 a, .int .i64 b, .int .i64 c, .int .i64 d]
  | 5, v, _ => v = L
  | 6, v, _ => v = .pointer (some q)
  | 7, v, _ => v = .pointer (some ⟨q.block, q.off + 1, none⟩)
  | 8, v, _ => v = M
  | _, _, _ => True
theorem VK.grown {p xb : Nat} {L M : Value} {q : Addr} {κ : Nat} {v : Value} {u u' : World} (h : VK p xb L M q κ v u) (hg : u.grownBy u' (some p)) : VK p xb L M q κ v u' := by
  unfold VK at h ⊢
  split at h
  · exact h
  · obtain ⟨A, n, c, zs, e, h1, h2, h3, h4, h5⟩ := h
    exact ⟨A, n, c, zs, e, h1, h2, h3, Rd.grown hg h4 (fun g o q e => by have := h5 g o q e; intro e2; injection e2 with e2; exact this e2), h5⟩
  all_goals exact h
theorem VK.four {p xb : Nat} {L M : Value} {q : Addr} {v : Value} {u : World} (h : VK p xb L M q 4 v u) : ∃ a b c d : Int, v = .agg #[.int .i64 a, .int .i64 b, .int .i64 c, .int .i64 d] := h
def intVal : Value → Int
  | .int _ z => z
  | _ => 0
theorem VK.int {p xb : Nat} {L M : Value} {q : Addr} {v : Value} {u : World} (h : VK p xb L M q 2 v u) : v = .int .i64 (intVal v) := by
  obtain ⟨z, rfl⟩ := h; rfl
def cntM (n : Nat) (m : Nat → Option Value) : Nat := (List.range n).countP (fun j => (m j).isSome)
theorem cntM_le (n : Nat) (m : Nat → Option Value) : cntM n m ≤ n := by
  have := List.countP_le_length (p := fun j => (m j).isSome) (l := List.range n)
  simpa [cntM] using this
theorem cntM_upd {n i : Nat} {m : Nat → Option Value} {v : Value} (hi : i < n) (hm : m i = none) : cntM n m + 1 ≤ cntM n (updM m i v) := by
  refine countP_less (fun x _ hx => ?_) ⟨i, List.mem_range.2 hi, by rw [updM_self]; rfl, by rw [hm]; rfl⟩
  by_cases e : x = i
  · subst e; rw [hm] at hx; cases hx
  · rw [updM_ne e]; exact hx
def afterAll (l : List Oper) (S : Nat) : Bool := match l[S]? with
  | none => false
  | some (o : Oper) => (List.range S).all (fun (j : Nat) => o.after.any (fun e => decide (e.on = j) && Region.binds .any e))
theorem afterAll_at {l : List Oper} {S : Nat} {o : Oper} (h : afterAll l S = true) (ho : l[S]? = some o) {j : Nat} (hj : j < S) : ∃ e ∈ o.after, e.on = j ∧ Region.binds .any e = true := by
  unfold afterAll at h
  simp only [ho, List.all_eq_true] at h
  have := h j (List.mem_range.2 hj)
  obtain ⟨k, hk, hh⟩ := Array.any_eq_true.1 this
  simp only [Bool.and_eq_true, decide_eq_true_eq] at hh
  exact ⟨o.after[k], Array.getElem_mem hk, hh.1, hh.2⟩
def cells4z : List Value := [.int .i64 0, .int .i64 0, .int .i64 0, .int .i64 0]
def cells4i (a b c d : Int) : List Value := [.int .i64 a, .int .i64 b, .int .i64 c, .int .i64 d]

/-- The same frame, by the places alone. -/
def putsD : List (Option Tmp) → Nat → Act → (Nat → Value) → Act
  | [], _, a, _ => a
  | d :: ds, j, a, vals => putsD ds (j + 1) (a.put d (vals j)) vals
theorem putsD_snoc (vals : Nat → Value) : ∀ (ds : List (Option Tmp)) (j : Nat) (a : Act) (d : Option Tmp), putsD (ds ++ [d]) j a vals = (putsD ds j a vals).put d (vals (j + ds.length))
  | [], j, a, d => rfl
  | e :: ds, j, a, d => by
    simp only [List.cons_append, putsD, List.length_cons]
    rw [putsD_snoc vals ds (j + 1) _ d, show j + 1 + ds.length = j + (ds.length + 1) by omega]
theorem preF_puts {l : List Oper} {ds : List (Option Tmp)} (h : l.map (·.dst) = ds) (a : Act) (vals : Nat → Value) : ∀ i, i ≤ l.length → preF l a vals i = putsD (ds.take i) 0 a vals
  | 0, _ => rfl
  | i + 1, hi => by
    have hl : ds.length = l.length := by rw [← h]; simp
    have hd : ds[i]? = some (dstO l i) := by
      rw [← h, List.getElem?_map, List.getElem?_eq_getElem (by omega)]
      simp [dstO, List.getElem?_eq_getElem (show i < l.length by omega)]
    rw [preF, preF_puts h a vals i (by omega), List.take_add_one, hd]
    simp only [Option.toList]
    rw [putsD_snoc, List.length_take, Nat.min_eq_left (by omega), Nat.zero_add]
theorem wp_region_cur {P : Program} {id : Nat} {l : List Oper} {a : Act} {Q : Exit → Act → World → Prop} {w u0 : World} (p rb xb k0 S : Nat) (L M : Value) (q : Addr) (cu : Cu) (X : List Value) (kind : Nat → Nat) (ds : List (Option Tmp)) (hds : l.map (·.dst) = ds)
    (hm : P.follows .mixedOrders = true) (hB : regB l = true) (hS : l.length = S + 1) (hA : afterAll l S = true)
    (hc : CurB u0 p cu k0) (hg : w.grownBy u0 (some p)) (hR : Blk u0 rb cells4z) (hX : Blk u0 xb X) (hrp : rb ≠ p) (hxp : xb ≠ p)
    (hstep : ∀ (i : Nat) (o : Oper), l[i]? = some o → i < S → ∀ (vals : Nat → Value) (u : World) (k : Nat), CurB u p cu k → k ≤ k0 + 2 * S → w.grownBy u (some p) → Blk u xb X →
      (∀ e ∈ o.after, Region.binds .any e = true → VK p xb L M q (kind e.on) (vals e.on) u) → ∀ (Kt : Act → World → Prop) (Q' : Exit → Act → World → Prop),
      (∀ b v u' k', b.defers = a.defers → holdsT b o.dst v → u.grownBy u' (some p) → CurB u' p cu k' → k' ≤ k + 2 → VK p xb L M q (kind i) v u' → Kt b u') → o.wp P (putsD (ds.take i) 0 a vals) u Kt Q')
    (hS4 : 0 < S) (hk4 : kind (S - 1) = 4)
    (hlast : ∀ (o : Oper), l[S]? = some o → ∀ (vals : Nat → Value) (u : World) (k : Nat) (a' b' c' d' : Int), CurB u p cu k → w.grownBy u (some p) → Blk u rb cells4z → vals (S - 1) = .agg #[.int .i64 a', .int .i64 b', .int .i64 c', .int .i64 d'] →
      ∀ (Kt : Act → World → Prop) (Q' : Exit → Act → World → Prop),
      (∀ b v u', b.defers = a.defers → holdsT b o.dst v → w.grownBy u' (some p) → CurB u' p cu k → Blk u' rb (cells4i a' b' c' d') → Kt b u') → o.wp P (putsD (ds.take S) 0 a vals) u Kt Q')
    (hend : ∀ (vals : Nat → Value) (u : World) (k : Nat) (a' b' c' d' : Int), k ≤ k0 + 2 * (S + 1) → CurB u p cu k → w.grownBy u (some p) → Blk u rb (cells4i a' b' c' d') → Q .normal (putsD ds 0 a vals) u) :
    (Code.region id l.toArray true).wp P Q a u0 := by
  refine wp_region_inv hm hB (fun m u => ∃ k, k ≤ k0 + 2 * cntM (S + 1) m ∧ CurB u p cu k ∧ w.grownBy u (some p) ∧
    ((m S = none ∧ Blk u rb cells4z ∧ Blk u xb X ∧ ∀ j v, m j = some v → VK p xb L M q (kind j) v u) ∨ ((∃ a' b' c' d', Blk u rb (cells4i a' b' c' d')) ∧ ∀ j, j ≤ S → (m j).isSome = true))) ?_ ?_ ?_
  · refine ⟨k0, by omega, hc.drew, grown_drew hg, .inl ⟨rfl, hR.drew, hX.drew, fun j v h => by cases h⟩⟩
  · intro i o ho m vals u ⟨k, hk, hcu, hgu, hI⟩ hmi hdep Kt Q' hK
    rw [preF_puts hds a vals i (by have := (List.getElem?_eq_some_iff.1 ho).1; omega)]
    have hiS : i ≤ S := by have := (List.getElem?_eq_some_iff.1 ho).1; omega
    have hcnt : ∀ v, cntM (S + 1) m + 1 ≤ cntM (S + 1) (updM m i v) := fun v => cntM_upd (by omega) hmi
    have hle := fun v => cntM_le (S + 1) (updM m i v)
    rcases hI with ⟨hSn, hR1, hX1, hV⟩ | ⟨-, hall⟩
    · have hdv : ∀ e ∈ o.after, Region.binds .any e = true → VK p xb L M q (kind e.on) (vals e.on) u := fun e he hb => hV _ _ (hdep e he hb)
      by_cases hi : i < S
      · refine hstep i o ho hi vals u k hcu (by have := hcnt undef; have := hle undef; omega) hgu hX1 hdv Kt Q' (fun b v u' k' hb1 hb2 hg' hc' hk' hv => hK b v u' hb1 hb2 ⟨k', by have := hcnt v; omega, hc', grown_trans hgu hg', .inl ⟨?_, hR1.grown hg' (by intro e; injection e with e; exact hrp e), hX1.grown hg' (by intro e; injection e with e; exact hxp e), fun j v' hj => ?_⟩⟩)
        · rw [updM_ne (by omega)]; exact hSn
        · by_cases e : j = i
          · subst e; rw [updM_self] at hj; injection hj with hj; subst hj; exact hv
          · rw [updM_ne e] at hj; exact (hV j v' hj).grown hg'
      · obtain rfl : i = S := by omega
        obtain ⟨x, hx, hxj, hbx⟩ := afterAll_at hA ho (show i - 1 < i by omega)
        have h4 := hdv x hx hbx
        rw [hxj, hk4] at h4
        obtain ⟨a', b', c', d', h4⟩ := h4
        refine hlast o ho vals u k a' b' c' d' hcu hgu hR1 h4 Kt Q' (fun b v u' hb1 hb2 hg' hc' hb' => hK b v u' hb1 hb2 ⟨k, by have := hcnt v; omega, hc', hg', .inr ⟨⟨a', b', c', d', hb'⟩, fun j hj => ?_⟩⟩)
        by_cases e : j = i
        · subst e; rw [updM_self]; rfl
        · obtain ⟨x, hx, hxj, hbx⟩ := afterAll_at hA ho (show j < i by omega)
          have := hdep x hx hbx
          rw [hxj] at this
          rw [updM_ne e, this]; rfl
    · have := hall i hiS; rw [hmi] at this; cases this
  · intro vals u ⟨k, hk, hcu, hgu, hI⟩
    rcases hI with ⟨hSn, -⟩ | ⟨⟨a', b', c', d', hb⟩, -⟩
    · have h2 : (if S < l.length then some (vals S) else none) = none := hSn
      rw [if_pos (by omega)] at h2; cases h2
    · rw [preF_puts hds a vals l.length (Nat.le_refl _), List.take_of_length_le (by rw [← hds]; simp)]
      exact hend vals u k a' b' c' d' (by have := cntM_le (S + 1) (fun j => if j < l.length then some (vals j) else none); omega) hcu hgu hb
end Go.Proofs.Ytjnbcippipookaa
