/- Stock book: StraightenBook: what it computes, in plain words. -/
import Derived.Test.YtacacibpehnmgaaGreatDoorStoO
namespace Go.Proofs.YtacacibpehnmgaaGreatDoor
set_option linter.unusedVariables false
set_option linter.unusedSimpArgs false
open Go.RowKit

/-- The first strip on which a stamp has room. -/
def ffV (ys : List BR) (z : Int) : Int := idxV (fun y => roomB y.ws z) ys
def sgS (ys : List BR) : List Int → Option (List BR)
  | [] => some ys
  | z :: zs => if ffV ys z < 0 then none else sgS (withV ys (ffV ys z) ((atB ys (ffV ys z)).ws ++ [z])) zs
theorem sgS_app : ∀ (us bs : List Int) (ys : List BR), sgS ys (us ++ bs) = (sgS ys us).bind (fun y => sgS y bs)
  | [], bs, ys => rfl
  | a :: us, bs, ys => by
    simp only [List.cons_append, sgS]
    split
    · rfl
    · exact sgS_app us bs _
theorem sgS_snoc {us : List Int} {ys now : List BR} {z : Int} (h : sgS ys us = some now) : sgS ys (us ++ [z]) = if ffV now z < 0 then none else some (withV now (ffV now z) ((atB now (ffV now z)).ws ++ [z])) := by
  rw [sgS_app, h]; simp [sgS]
theorem sgS_none {us bs : List Int} {ys now : List BR} {z : Int} (h : sgS ys us = some now) (hz : ffV now z < 0) : sgS ys (us ++ z :: bs) = none := by
  rw [sgS_app, h]; simp [sgS, hz]
theorem ff_at {ys : List BR} {z : Int} (h : 0 ≤ ffV ys z) : ∃ (m : Nat) (x : BR), ffV ys z = m ∧ m < ys.length ∧ ys[m]? = some x ∧ roomB x.ws z = true := by
  rcases idxV_cases (fun y => roomB y.ws z) ys with ⟨h1, _⟩ | ⟨k, x, h1, h2, h3, _⟩
  · unfold ffV at h; omega
  · exact ⟨k, x, h1, (List.getElem?_eq_some_iff.1 h2).1, h2, h3⟩
def emptyV (xs : List BR) : List BR := xs.map (fun x => ⟨x.id, []⟩)
def allW (xs : List BR) : List Int := xs.flatMap (·.ws)
def isD (d : Nat) (z : Int) : Bool := z == 60 - (d : Int)
/-- All widths, in descending order. -/
def descV (xs : List BR) : List Int := (List.range 51).flatMap (fun d => (allW xs).filter (isD d))
/-- What the reference's loops have seen. -/
def preV (xs : List BR) (d i k : Nat) : List Int := (List.range d).flatMap (fun d => (allW xs).filter (isD d)) ++ (((xs.take i).flatMap (·.ws)).filter (isD d) ++ ((atB xs (i : Int)).ws.take k).filter (isD d))
theorem preV_step {xs : List BR} {d i k : Nat} {x : BR} {z : Int} (hx : xs[i]? = some x) (hz : x.ws[k]? = some z) : preV xs d i (k + 1) = preV xs d i k ++ (if isD d z then [z] else []) := by
  unfold preV
  rw [atB_at hx, List.take_add_one, hz]
  simp only [Option.toList, List.filter_append, List.append_assoc]
  congr 3
  cases h : isD d z <;> simp [h]
theorem preV_row {xs : List BR} {d i : Nat} {x : BR} (hx : xs[i]? = some x) : preV xs d i x.ws.length = preV xs d (i + 1) 0 := by
  unfold preV
  rw [atB_at hx, List.take_length, List.take_add_one, hx]
  simp [Option.toList]
theorem preV_all {xs : List BR} {d : Nat} : preV xs d xs.length 0 = preV xs (d + 1) 0 0 := by
  unfold preV
  rw [List.take_length, List.range_succ]
  simp [allW]
theorem preV_zero (xs : List BR) : preV xs 0 0 0 = [] := by simp [preV]
theorem preV_end (xs : List BR) : preV xs 51 0 0 = descV xs := by simp [preV, descV]
/-- What comes next is next in the descending list. -/
theorem preV_prefix {xs : List BR} {d i k : Nat} {x : BR} {z : Int} (hd : d < 51) (hx : xs[i]? = some x) (hz : x.ws[k]? = some z) (hzd : isD d z = true) : ∃ rest, descV xs = preV xs d i k ++ z :: rest := by
  have h1 : ∃ r1, (allW xs).filter (isD d) = ((xs.take i).flatMap (·.ws)).filter (isD d) ++ ((x.ws.take k).filter (isD d) ++ z :: r1) := by
    refine ⟨(x.ws.drop (k + 1)).filter (isD d) ++ ((xs.drop (i + 1)).flatMap (·.ws)).filter (isD d), ?_⟩
    have e1 : allW xs = (xs.take i).flatMap (·.ws) ++ (x.ws ++ (xs.drop (i + 1)).flatMap (·.ws)) := by
      have e : xs = xs.take i ++ x :: xs.drop (i + 1) := by rw [← drop_cons hx, List.take_append_drop]
      conv => lhs; rw [allW, e]
      simp
    have e2 : x.ws = x.ws.take k ++ z :: x.ws.drop (k + 1) := by rw [← drop_cons hz, List.take_append_drop]
    rw [e1, List.filter_append, List.filter_append]
    conv => lhs; rw [e2]
    simp [List.filter_append, hzd]
  obtain ⟨r1, h1⟩ := h1
  have h2 : ∃ r2, descV xs = (List.range d).flatMap (fun d => (allW xs).filter (isD d)) ++ ((allW xs).filter (isD d) ++ r2) := by
    refine ⟨((List.range 51).drop (d + 1)).flatMap (fun d => (allW xs).filter (isD d)), ?_⟩
    have e : List.range 51 = List.range d ++ d :: (List.range 51).drop (d + 1) := by
      have h := drop_cons (xs := List.range 51) (i := d) (x := d) (by simp [hd])
      rw [← h]
      have h3 : (List.range 51).take d = List.range d := by rw [List.take_range]; congr 1; omega
      rw [← h3, List.take_append_drop]
    conv => lhs; rw [descV, e]
    simp
  obtain ⟨r2, h2⟩ := h2
  refine ⟨r1 ++ r2, ?_⟩
  rw [h2, h1, preV, atB_at hx]
  simp only [List.append_assoc, List.cons_append]
theorem allW_wd {xs : List BR} (h : rowsB xs) : ∀ z ∈ allW xs, wdB z = true := fun z hz => by
  simp only [allW, List.mem_flatMap] at hz
  obtain ⟨x, hx, hz⟩ := hz
  exact (rowB_yes (h x hx)).1 z hz
/-- The sorted list, turned, is the descending list. -/
theorem desc_sorted {xs : List BR} (h : rowsB xs) : ((allW xs).mergeSort fun x y => decide (x ≤ y)).reverse = descV xs := by
  have hp1 : (((allW xs).mergeSort fun x y => decide (x ≤ y)).reverse).Perm (allW xs) := (List.reverse_perm _).trans (List.mergeSort_perm _ _)
  have hp2 : (descV xs).Perm (allW xs) := by
    refine List.perm_iff_count.2 fun z => ?_
    unfold descV
    rw [List.count_flatMap]
    by_cases hz : z ∈ allW xs
    · obtain ⟨z1, z2⟩ := wdB_bd.1 (allW_wd h z hz)
      have e : List.range 51 = List.range (60 - z).toNat ++ (60 - z).toNat :: (List.range 51).drop ((60 - z).toNat + 1) := by
        have h := drop_cons (xs := List.range 51) (i := (60 - z).toNat) (x := (60 - z).toNat) (by rw [List.getElem?_range (by omega)])
        rw [← h]
        have h3 : (List.range 51).take (60 - z).toNat = List.range (60 - z).toNat := by rw [List.take_range]; congr 1; omega
        rw [← h3, List.take_append_drop]
      have hz0 : ∀ d : Nat, d ≠ (60 - z).toNat → ((allW xs).filter (isD d)).count z = 0 := fun d hd => by
        rw [List.count_eq_zero]
        intro hm
        have := (List.mem_filter.1 hm).2
        simp only [isD, beq_iff_eq] at this
        omega
      have hself : ((allW xs).filter (isD (60 - z).toNat)).count z = (allW xs).count z := by
        rw [List.count_filter]
        simp only [isD, beq_iff_eq]; omega
      have hsum0 : ∀ L : List Nat, (∀ d ∈ L, d ≠ (60 - z).toNat) → (L.map (List.count z ∘ fun d => (allW xs).filter (isD d))).sum = 0 := fun L hL => by
        induction L with
        | nil => rfl
        | cons d L ih =>
          simp only [List.map_cons, List.sum_cons, Function.comp]
          rw [hz0 d (hL d (List.mem_cons_self ..))]
          have := ih (fun e he => hL e (List.mem_cons_of_mem _ he))
          simp only [Function.comp_def] at this ⊢
          omega
      rw [e, List.map_append, List.sum_append, List.map_cons, List.sum_cons]
      rw [hsum0 _ (fun d hd => by have := List.mem_range.1 hd; omega), hsum0 _ (fun d hd => by
        obtain ⟨j, hj, rfl⟩ := List.getElem_of_mem hd
        simp; omega)]
      simp only [Function.comp]
      rw [hself]; omega
    · rw [List.count_eq_zero.2 hz]
      have : ∀ L : List Nat, (L.map (List.count z ∘ fun d => (allW xs).filter (isD d))).sum = 0 := fun L => by
        induction L with
        | nil => rfl
        | cons d L ih =>
          simp only [List.map_cons, List.sum_cons, Function.comp] at ih ⊢
          rw [List.count_eq_zero.2 (fun hm => hz (List.mem_filter.1 hm).1)]
          simp only [Function.comp_def] at ih ⊢
          omega
      exact this _
  refine List.Perm.eq_of_pairwise (le := fun a b => b ≤ a) (fun a b _ _ h1 h2 => by omega) ?_ ?_ (hp1.trans hp2.symm)
  · rw [List.pairwise_reverse]
    have := List.pairwise_mergeSort (le := fun (x y : Int) => decide (x ≤ y)) (fun a b c h1 h2 => by simp at *; omega) (fun a b => by simp; omega) (allW xs)
    exact this.imp (fun h => by simpa using h)
  · unfold descV
    rw [List.pairwise_flatMap]
    refine ⟨fun d _ => ?_, ?_⟩
    · refine List.pairwise_of_forall_mem_list (fun a ha b hb => ?_)
      have h1 := (List.mem_filter.1 ha).2
      have h2 := (List.mem_filter.1 hb).2
      simp only [isD, beq_iff_eq] at h1 h2
      omega
    · refine List.pairwise_lt_range.imp (fun {a b} hab x hx y hy => ?_)
      have h1 := (List.mem_filter.1 hx).2
      have h2 := (List.mem_filter.1 hy).2
      simp only [isD, beq_iff_eq] at h1 h2
      omega

def sbO (xs : List BR) : Option (List BR) := sgS (emptyV xs) (descV xs)
def sbB (xs : List BR) : Bool := bookB xs && (sbO xs).isSome
def sbV (xs : List BR) : List BR := if bookB xs then (sbO xs).getD [] else []
theorem emptyV_get {xs : List BR} {k : Nat} {x : BR} (h : xs[k]? = some x) : (emptyV xs)[k]? = some ⟨x.id, []⟩ := by simp [emptyV, h]
theorem emptyV_len (xs : List BR) : (emptyV xs).length = xs.length := by simp [emptyV]
theorem emptyV_rows (xs : List BR) : rowsB (emptyV xs) := fun y hy => by
  simp only [emptyV, List.mem_map] at hy
  obtain ⟨x, -, rfl⟩ := hy
  exact (by decide : rowB [] = true)
theorem sgS_inv : ∀ (us : List Int) {ys now : List BR}, rowsB ys → sgS ys us = some now → rowsB now ∧ now.length = ys.length
  | [], ys, now, h, e => by simp [sgS] at e; subst e; exact ⟨h, rfl⟩
  | z :: us, ys, now, h, e => by
    simp only [sgS] at e
    split at e
    · cases e
    · rename_i hf
      obtain ⟨m, x, hm, hml, hx, hr⟩ := ff_at (ys := ys) (z := z) (by omega)
      rw [hm, atB_at hx] at e
      have := sgS_inv us (rowsB_with h hr) e
      rw [withV_len] at this
      exact this
theorem sb_small (xs : List BR) : smallB (sbV xs) := by
  unfold sbV
  cases hv : bookB xs with
  | false => exact smallB_nil
  | true =>
    rw [if_pos rfl]
    cases ho : sbO xs with
    | none => exact smallB_nil
    | some now =>
      obtain ⟨h1, h2⟩ := sgS_inv _ (emptyV_rows xs) ho
      rw [emptyV_len] at h2
      exact ⟨by simp only [Option.getD_some]; rw [h2]; exact (bookB_yes hv).2, fun x hx => by have := (rowB_yes (h1 x hx)).2.1; omega⟩
end Go.Proofs.YtacacibpehnmgaaGreatDoor
