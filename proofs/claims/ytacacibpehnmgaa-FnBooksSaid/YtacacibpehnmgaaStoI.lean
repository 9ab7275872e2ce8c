/- Stock book: SwapStrips. -/
import Derived.Test.YtacacibpehnmgaaStoH
import Derived.Test.YtacacibpehnmgaaStoD
namespace Go.Proofs.Ytacacibpehnmgaa
set_option linter.unusedVariables false
set_option linter.unusedSimpArgs false
open Go.RowKit

theorem RdB.drew {w : World} {A : Option Addr} {xs : List BR} (h : RdB w A xs) : RdB w.drew A xs := h
theorem OwnB.drew {w : World} {lo E EI : Nat} {v : Value} {xs : List BR} {vs : List Value} (h : OwnB w lo E EI v xs vs) : OwnB w.drew lo E EI v xs vs := h
/-- The call returns a book in memory of its own, and a Bool. -/
def RetBB (E EI : Nat) (xs : List BR) (b : Bool) (W : World) : Ending → World → Prop := fun e w' => ∃ v vs, e = .returned (.tuple #[v, .bool b]) ∧ OwnB w' W.heap.size E EI v xs vs ∧ Below W.heap.size W w'

/-- Two rows exchange their slices. -/
theorem OwnB.swap {w : World} {lo E EI i k g n cap : Nat} {a b : Value} {xs : List BR} {vs : List Value} {x y : BR} (h : OwnB w lo E EI (.slice (some ⟨g, 0, none⟩) n cap) xs vs) (hn : xs.length = n) (hx : xs[i]? = some x) (hy : xs[k]? = some y) (ha : vs[i]? = some a) (hb : vs[k]? = some b) :
    OwnB ((w.setCell ⟨g, i * 2 + 1, none⟩ b).setCell ⟨g, k * 2 + 1, none⟩ a) lo E EI (.slice (some ⟨g, 0, none⟩) n cap) ((xs.set i ⟨x.id, y.ws⟩).set k ⟨y.id, x.ws⟩) ((vs.set i b).set k a) := by
  obtain ⟨hl, hr, hi, hap⟩ := h
  rw [hn] at hr
  have hil : i < xs.length := (List.getElem?_eq_some_iff.1 hx).1
  have hkl : k < xs.length := (List.getElem?_eq_some_iff.1 hy).1
  obtain ⟨h1, g1⟩ := hr.stored (i * 2 + 1) b
  obtain ⟨h2, g2⟩ := h1.stored (k * 2 + 1) a
  have gg := World.grownBy.trans g1 g2
  obtain ⟨z, hz, hzid⟩ : ∃ z, (xs.set i ⟨x.id, y.ws⟩)[k]? = some z ∧ z.id = y.id := by
    by_cases e : i = k
    · subst e
      rw [hx] at hy; injection hy with hy; subst hy
      exact ⟨_, List.getElem?_set_self hil, rfl⟩
    · exact ⟨y, by rw [List.getElem?_set_ne e]; exact hy, rfl⟩
  have keep : ∀ (j : Nat) (u : Value) (ws : List Int), vs[j]? = some u → w.ownsRow lo EI 1 u ws.length (cells1 ws) → ((w.setCell ⟨g, i * 2 + 1, none⟩ b).setCell ⟨g, k * 2 + 1, none⟩ a).ownsRow lo EI 1 u ws.length (cells1 ws) := fun j u ws hu ho =>
    ho.kept gg (hap.ne (i := j + 1) (j := 0) (by omega) (by simpa using hu) rfl)
  refine ⟨by simp [hl], ?_, fun j q u hq hu => ?_, ?_⟩
  · rw [cellsB_set_v a (by simp [hl]), ← hzid, cellsB_ws x.ws hz, cellsB_set_v b (by simp [hl]), cellsB_ws y.ws hx, List.length_set, List.length_set, hn]
    exact h2
  · by_cases ek : k = j
    · subst ek
      rw [List.getElem?_set_self (by simp [hkl])] at hq
      rw [List.getElem?_set_self (by simp [hl, hkl])] at hu
      injection hq with hq; injection hu with hu; subst hq; subst hu
      exact keep i a x.ws ha (hi i x a hx ha)
    · rw [List.getElem?_set_ne ek] at hq hu
      by_cases ei : i = j
      · subst ei
        rw [List.getElem?_set_self hil] at hq
        rw [List.getElem?_set_self (by omega)] at hu
        injection hq with hq; injection hu with hu; subst hq; subst hu
        exact keep k b y.ws hb (hi k y b hy hb)
      · rw [List.getElem?_set_ne ei] at hq hu
        exact keep j u q.ws hu (hi j q u hq hu)
  · refine hap.map (fun j => if j = i + 1 then k + 1 else if j = k + 1 then i + 1 else j) (fun p q e => ?_) (fun j u hu => ?_)
    · grind
    · cases j with
      | zero => simp at hu ⊢; exact hu
      | succ j =>
        simp only [List.getElem?_cons_succ] at hu
        by_cases ek : k = j
        · subst ek
          rw [List.getElem?_set_self (by simp [hl, hkl])] at hu
          injection hu with hu; subst hu
          by_cases ei : k = i
          · subst ei; simp [ha]
          · simp [ei, ha]
        · rw [List.getElem?_set_ne ek] at hu
          by_cases ei : i = j
          · subst ei
            rw [List.getElem?_set_self (by omega)] at hu
            injection hu with hu; subst hu
            simp [hb]
          · rw [List.getElem?_set_ne ei] at hu
            simp [show ¬ j = i by omega, show ¬ j = k by omega, hu]

/-- What SwapStrips returns. -/
def swB (xs : List BR) (a b : Int) : Bool := decide (0 ≤ findV xs a) && decide (0 ≤ findV xs b)
def swV (xs : List BR) (a b : Int) : List BR := if swB xs a b then withV (withV xs (findV xs a) (atB xs (findV xs b)).ws) (findV xs b) (atB xs (findV xs a)).ws else []
theorem withV_mem {xs : List BR} {i : Int} {ws : List Int} {x : BR} (h : x ∈ withV xs i ws) : x.ws = ws ∨ ∃ y ∈ xs, y.ws = x.ws := by
  obtain ⟨j, hj⟩ := List.mem_iff_getElem?.1 h
  simp only [withV, List.getElem?_mapIdx] at hj
  cases e : xs[j]? with
  | none => rw [e] at hj; simp at hj
  | some y =>
    rw [e] at hj
    simp only [Option.map_some, Option.some.injEq] at hj
    subst hj
    split
    · exact .inl rfl
    · exact .inr ⟨y, List.mem_of_getElem? e, rfl⟩
/-- A list of at most 8 rows of at most 13 widths. -/
def smallB (xs : List BR) : Prop := xs.length ≤ 8 ∧ ∀ x ∈ xs, x.ws.length ≤ 13
theorem smallB_nil : smallB [] := ⟨by simp, fun x h => by cases h⟩
theorem smallB_book {xs : List BR} (h : bookB xs = true) : smallB xs := ⟨(bookB_yes h).2, fun x hx => by have := (rowB_yes (bookB_rows h x hx)).2.1; omega⟩
theorem smallB_with {xs : List BR} {i : Int} {ws : List Int} (h : smallB xs) (hw : ws.length ≤ 13) : smallB (withV xs i ws) :=
  ⟨by rw [withV_len]; exact h.1, fun x hx => by
    rcases withV_mem hx with e | ⟨y, hy, e⟩
    · rw [e]; exact hw
    · rw [← e]; exact h.2 y hy⟩
theorem smallB_szB : ∀ {xs : List BR}, (∀ x ∈ xs, x.ws.length ≤ 13) → szB xs ≤ 14 * xs.length
  | [], _ => by simp [szB]
  | x :: xs, h => by
    have := smallB_szB (xs := xs) (fun y hy => h y (List.mem_cons_of_mem _ hy))
    have := h x (List.mem_cons_self ..)
    simp only [szB, List.length_cons]; omega
theorem smallB_n {xs : List BR} (h : smallB xs) : xs.length ≤ 1048576 := by have := h.1; omega
theorem smallB_w {xs : List BR} (h : smallB xs) : ∀ x ∈ xs, x.ws.length ≤ 1048576 := fun x hx => by have := h.2 x hx; omega
theorem smallB_s {xs : List BR} (h : smallB xs) : szB xs ≤ 2097152 := by have := smallB_szB h.2; have := h.1; omega
theorem sw_small (xs : List BR) (a b : Int) : smallB (swV xs a b) := by
  unfold swV
  split
  · rename_i h
    simp only [swB, Bool.and_eq_true, decide_eq_true_eq] at h
    rcases findV_cases xs a with e | ⟨hv, i, x, h1, -, hi, hx, -, hrx⟩
    · omega
    rcases findV_cases xs b with e | ⟨-, k, y, h2, -, hk, hy, -, hry⟩
    · omega
    rw [h1, h2, atB_at hx, atB_at hy]
    exact smallB_with (smallB_with (smallB_book hv) (by have := (rowB_yes hry).2.1; omega)) (by have := (rowB_yes hrx).2.1; omega)
  · exact smallB_nil
theorem sw_ways (xs : List BR) (a b : Int) : (swB xs a b = false ∧ (findV xs a = -1 ∨ findV xs b = -1)) ∨
    (swB xs a b = true ∧ bookB xs = true ∧ ∃ (i k : Nat) (x y : BR), findV xs a = i ∧ findV xs b = k ∧ i < xs.length ∧ k < xs.length ∧ xs[i]? = some x ∧ xs[k]? = some y ∧ rowB x.ws = true ∧ rowB y.ws = true ∧
      swV xs a b = withV (withV xs i y.ws) k x.ws) := by
  rcases findV_cases xs a with e | ⟨hv, i, x, h1, -, hi, hx, -, hrx⟩
  · exact .inl ⟨by simp [swB, e], .inl e⟩
  rcases findV_cases xs b with e | ⟨-, k, y, h2, -, hk, hy, -, hry⟩
  · exact .inl ⟨by simp [swB, e], .inr e⟩
  have hB : swB xs a b = true := by simp [swB, h1, h2]
  exact .inr ⟨hB, hv, i, k, x, y, h1, h2, hi, hk, hx, hy, hrx, hry, by rw [swV, if_pos hB, h1, h2, atB_at hx, atB_at hy]⟩

end Go.Proofs.Ytacacibpehnmgaa
