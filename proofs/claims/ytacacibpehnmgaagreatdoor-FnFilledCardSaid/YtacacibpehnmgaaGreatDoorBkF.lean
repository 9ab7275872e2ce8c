/- Stock book: what the law on filled books asks, in plain Lean: a filled book has all stamps but those that found no room, a straightened one has the same stamps, strips that are swapped twice are as before, a tight strip has room. -/
import Derived.Test.YtacacibpehnmgaaGreatDoorStoS
import Derived.Test.YtacacibpehnmgaaGreatDoorStoJ
import Derived.Test.YtacacibpehnmgaaGreatDoorList
namespace Go.Proofs.YtacacibpehnmgaaGreatDoor
set_option linter.unusedVariables false
set_option linter.unusedSimpArgs false
open Go.RowKit

theorem bookB_set {xs : List BR} {k : Nat} {x : BR} (ws : List Int) (hv : bookB xs = true) (hx : xs[k]? = some x) : bookB (xs.set k ⟨x.id, ws⟩) = rowB ws := by
  have hk : k < xs.length := (List.getElem?_eq_some_iff.1 hx).1
  obtain ⟨ha, hl⟩ := bookB_yes hv
  cases hr : rowB ws with
  | false =>
    refine bookB_no (k := k) (by simp [hk]) (okA_no (List.getElem?_set_self hk) (strip_no2 hr))
  | true =>
    have hid := (bookB_row hv hx).1
    have h1 : ∀ (j : Nat) (y : BR), (xs.set k ⟨x.id, ws⟩)[j]? = some y → stripB y = true := fun j y hy => by
      by_cases e : k = j
      · subst e
        rw [List.getElem?_set_self hk] at hy; injection hy with hy; subst hy
        exact strip_yes (inR_true.2 hid) hr
      · rw [List.getElem?_set_ne e] at hy
        exact allA_at ha hy
    have hidd : ∀ (j : Nat) (y : BR), (xs.set k ⟨x.id, ws⟩)[j]? = some y → ∃ z, xs[j]? = some z ∧ z.id = y.id := fun j y hy => by
      by_cases e : k = j
      · subst e
        rw [List.getElem?_set_self hk] at hy; injection hy with hy; subst hy
        exact ⟨x, hx, rfl⟩
      · rw [List.getElem?_set_ne e] at hy
        exact ⟨y, hy, rfl⟩
    have h2 : ∀ (j : Nat) (y z : BR), (xs.set k ⟨x.id, ws⟩)[j + 1]? = some y → (xs.set k ⟨x.id, ws⟩)[j]? = some z → idLt z y = true := fun j y z hy hz => by
      obtain ⟨y', hy', ey⟩ := hidd _ _ hy
      obtain ⟨z', hz', ez⟩ := hidd _ _ hz
      have := allA_ord ha hy' hz'
      simp only [idLt] at this ⊢
      rw [← ey, ← ez]; exact this
    simp only [bookB, allA_mk h1 h2, List.length_set, Bool.true_and, decide_eq_true_eq]
    exact hl

/-- All widths of a book together. -/
def totB (xs : List BR) : Int := (xs.map (fun x => x.ws.sum)).sum
theorem totB_cons (x : BR) (xs : List BR) : totB (x :: xs) = x.ws.sum + totB xs := by simp [totB]
theorem totB_take {xs : List BR} {k : Nat} {x : BR} (h : xs[k]? = some x) : totB (xs.take (k + 1)) = totB (xs.take k) + x.ws.sum := by
  rw [List.take_add_one, h]; simp [totB]
theorem totB_set : ∀ {xs : List BR} {k : Nat} {x : BR} (id : Int) (ws : List Int), xs[k]? = some x → totB (xs.set k ⟨id, ws⟩) + x.ws.sum = totB xs + ws.sum
  | [], k, x, id, ws, h => by simp at h
  | a :: xs, 0, x, id, ws, h => by
    simp at h; subst h
    rw [List.set_cons_zero, totB_cons, totB_cons]; simp only; omega
  | a :: xs, k + 1, x, id, ws, h => by
    rw [List.set_cons_succ, totB_cons, totB_cons]
    have := totB_set id ws (xs := xs) (k := k) (by simpa using h)
    omega
theorem sum_snoc (ws : List Int) (z : Int) : (ws ++ [z]).sum = ws.sum + z := by simp
theorem totB_bd {xs : List BR} (h : rowsB xs) : 0 ≤ totB xs ∧ totB xs ≤ 780 * xs.length := by
  induction xs with
  | nil => simp [totB]
  | cons x xs ih =>
    have h1 := ih (fun y hy => h y (List.mem_cons_of_mem _ hy))
    obtain ⟨h2, h3, -⟩ := rowB_yes (h x (List.mem_cons_self ..))
    have := sum_bd h2
    rw [totB_cons, List.length_cons]
    omega
theorem totB_take_bd {xs : List BR} (h : rowsB xs) (k : Nat) (hl : xs.length ≤ 8) : 0 ≤ totB (xs.take k) ∧ totB (xs.take k) ≤ 6240 := by
  have := totB_bd (xs := xs.take k) (fun x hx => h x (List.mem_of_mem_take hx))
  have h2 : (xs.take k).length ≤ 8 := by rw [List.length_take]; omega
  omega
theorem bookB_with {xs : List BR} {k : Nat} {x : BR} {ws : List Int} (hv : bookB xs = true) (hx : xs[k]? = some x) (hr : rowB ws = true) : bookB (withV xs (k : Int) ws) = true := by
  rw [withV_at hx, bookB_set ws hv hx]; exact hr
theorem totB_with {xs : List BR} {k : Nat} {x : BR} {ws : List Int} (hx : xs[k]? = some x) : totB (withV xs (k : Int) ws) + x.ws.sum = totB xs + ws.sum := by
  rw [withV_at hx]; exact totB_set x.id ws hx

/-! ### Filled -/
/-- The widths of the first k stamps that found no room. -/
def leftN (none : List Int) (ws : List Int) : Nat → Int
  | 0 => 0
  | k + 1 => leftN none ws k + if hasB none (k : Int) = true then ws.getD k 0 else 0
theorem leftN_step {L ws : List Int} {k : Nat} {x : Int} (h : ws[k]? = some x) : leftN L ws (k + 1) = leftN L ws k + if hasB L (k : Int) = true then x else 0 := by
  have e : ws.getD k 0 = x := by rw [List.getD_eq_getElem?_getD, h]; rfl
  rw [leftN, e]
theorem leftN_ext {n1 n2 ws : List Int} : ∀ {k : Nat}, (∀ i : Nat, i < k → (hasB n1 (i : Int) = hasB n2 (i : Int))) → leftN n1 ws k = leftN n2 ws k
  | 0, _ => rfl
  | k + 1, h => by rw [leftN, leftN, leftN_ext (k := k) (fun i hi => h i (by omega)), h k (by omega)]
theorem leftN_bd {n ws : List Int} (h : ∀ w ∈ ws, wdB w = true) : ∀ k : Nat, 0 ≤ leftN n ws k ∧ leftN n ws k ≤ 60 * k
  | 0 => by simp [leftN]
  | k + 1 => by
    have := leftN_bd (n := n) h k
    have hg : 0 ≤ ws.getD k 0 ∧ ws.getD k 0 ≤ 60 := by
      rw [List.getD_eq_getElem?_getD]
      cases hw : ws[k]? with
      | none => simp
      | some w => have := wdB_bd.1 (h w (List.mem_of_getElem? hw)); simp only [Option.getD_some]; omega
    rw [leftN]
    split <;> omega
theorem fbS_tot {xs : List BR} {ws : List Int} (hv : bookB xs = true) : ∀ k : Nat, k ≤ ws.length → bookB (fbS xs ws k).1 = true ∧ totB (fbS xs ws k).1 = totB xs + (ws.take k).sum - leftN (fbS xs ws k).2 ws k ∧ (∀ z ∈ (fbS xs ws k).2, 0 ≤ z ∧ z < k)
  | 0, _ => ⟨hv, by simp [fbS, leftN], fun z hz => by simp [fbS] at hz⟩
  | k + 1, hk => by
    obtain ⟨h1, h2, h3⟩ := fbS_tot (xs := xs) (ws := ws) hv k (by omega)
    obtain ⟨z, hz⟩ : ∃ z, ws[k]? = some z := ⟨ws[k], List.getElem?_eq_getElem (by omega)⟩
    have ht := sum_take1 hz
    have hgd : ws.getD k 0 = z := by rw [List.getD_eq_getElem?_getD, hz]; rfl
    rcases Int.lt_or_le (tightV (fbS xs ws k).1 z) 0 with hn | hn
    · rw [fbS_no hz hn]
      refine ⟨h1, ?_, fun y hy => ?_⟩
      · simp only
        rw [leftN, if_pos (hasB_true.2 (List.mem_append_right _ (by simp))), hgd]
        rw [← leftN_ext (n1 := (fbS xs ws k).2) (fun i hi => ?_)]
        · omega
        · rw [Bool.eq_iff_iff, hasB_true, hasB_true, List.mem_append]
          simp only [List.mem_cons, List.not_mem_nil, or_false]
          constructor
          · exact .inl
          · rintro (h | h)
            · exact h
            · omega
      · rcases List.mem_append.1 hy with hy | hy
        · have := h3 y hy; omega
        · simp at hy; omega
    · obtain ⟨m, x, hm, hml, hx, hr⟩ := tight_at hn
      rw [fbS_yes hz hm hx]
      have ht2 := totB_with (ws := x.ws ++ [z]) hx
      rw [sum_snoc] at ht2
      refine ⟨bookB_with h1 hx hr, ?_, fun y hy => by have := h3 y hy; omega⟩
      simp only
      rw [leftN, if_neg]
      · omega
      · intro hh
        have := h3 _ (hasB_true.1 hh)
        omega
theorem fb_facts {xs : List BR} {ws : List Int} (h : fbB xs ws = true) : bookB xs = true ∧ bookB (fbV xs ws) = true ∧ totB (fbV xs ws) - totB xs = ws.sum - leftN (fbN xs ws) ws ws.length ∧ (∀ w ∈ ws, wdB w = true) ∧ ws.length ≤ 20 := by
  have h' := h
  simp only [fbB, Bool.and_eq_true, decide_eq_true_eq, List.all_eq_true] at h'
  obtain ⟨h1, h2, h3⟩ := fbS_tot (ws := ws) h'.1 ws.length (Nat.le_refl _)
  rw [List.take_length] at h2
  refine ⟨h'.1, by rw [fbV, if_pos h]; exact h1, ?_, h'.2.2, h'.2.1⟩
  rw [fbV, if_pos h, fbN, if_pos h]
  omega

/-! ### Straightened -/
theorem sgS_tot : ∀ {us : List Int} {ys now : List BR}, bookB ys = true → sgS ys us = some now → bookB now = true ∧ totB now = totB ys + us.sum
  | [], ys, now, h, e => by simp [sgS] at e; subst e; simp [h]
  | z :: us, ys, now, h, e => by
    simp only [sgS] at e
    split at e
    · cases e
    · rename_i hf
      obtain ⟨m, x, hm, hml, hx, hr⟩ := ff_at (ys := ys) (z := z) (by omega)
      rw [hm, atB_at hx] at e
      obtain ⟨h1, h2⟩ := sgS_tot (bookB_with h hx hr) e
      have ht2 := totB_with (ws := x.ws ++ [z]) hx
      rw [sum_snoc] at ht2
      refine ⟨h1, ?_⟩
      rw [h2, List.sum_cons]
      omega
theorem emptyV_book {xs : List BR} (h : bookB xs = true) : bookB (emptyV xs) = true := by
  obtain ⟨ha, hl⟩ := bookB_yes h
  have key : ∀ (j : Nat) (y : BR), (emptyV xs)[j]? = some y → ∃ z, xs[j]? = some z ∧ y = ⟨z.id, []⟩ := fun j y hy => by
    unfold emptyV at hy
    rw [List.getElem?_map] at hy
    cases hz : xs[j]? with
    | none => rw [hz] at hy; simp at hy
    | some z => rw [hz] at hy; simp at hy; exact ⟨z, rfl, hy.symm⟩
  have h1 : ∀ (j : Nat) (y : BR), (emptyV xs)[j]? = some y → stripB y = true := fun j y hy => by
    obtain ⟨z, hz, rfl⟩ := key j y hy
    exact strip_yes (inR_true.2 (bookB_row h hz).1) (show rowB [] = true by decide)
  have h2 : ∀ (j : Nat) (y z : BR), (emptyV xs)[j + 1]? = some y → (emptyV xs)[j]? = some z → idLt z y = true := fun j y z hy hz => by
    obtain ⟨y', hy', rfl⟩ := key _ _ hy
    obtain ⟨z', hz', rfl⟩ := key _ _ hz
    have := allA_ord ha hy' hz'
    simpa only [idLt] using this
  simp only [bookB, allA_mk h1 h2, emptyV_len, Bool.true_and, decide_eq_true_eq]
  exact hl
theorem totB_empty (xs : List BR) : totB (emptyV xs) = 0 := by
  induction xs with
  | nil => rfl
  | cons x xs ih =>
    have : emptyV (x :: xs) = ⟨x.id, []⟩ :: emptyV xs := rfl
    rw [this, totB_cons, ih]; rfl
theorem sum_allW (xs : List BR) : (allW xs).sum = totB xs := by
  induction xs with
  | nil => rfl
  | cons x xs ih =>
    have : allW (x :: xs) = x.ws ++ allW xs := rfl
    rw [this, List.sum_append, ih, totB_cons]
theorem sum_perm {l m : List Int} (h : l.Perm m) : l.sum = m.sum := by
  induction h with
  | nil => rfl
  | cons x _ ih => rw [List.sum_cons, List.sum_cons, ih]
  | swap x y l => simp only [List.sum_cons]; omega
  | trans _ _ h1 h2 => exact h1.trans h2
theorem sb_facts {xs : List BR} (h : sbB xs = true) : bookB xs = true ∧ bookB (sbV xs) = true ∧ totB (sbV xs) = totB xs ∧ (sbV xs).length = xs.length := by
  simp only [sbB, Bool.and_eq_true] at h
  obtain ⟨hv, ho⟩ := h
  cases e : sbO xs with
  | none => rw [e] at ho; cases ho
  | some now =>
    obtain ⟨-, h2⟩ := sb_some hv e
    rw [h2]
    unfold sbO at e
    obtain ⟨h3, h4⟩ := sgS_tot (emptyV_book hv) e
    have h5 := (sgS_inv _ (emptyV_rows xs) e).2
    refine ⟨hv, h3, ?_, by rw [h5, emptyV_len]⟩
    rw [h4, totB_empty, ← desc_sorted (bookB_rows hv), sum_perm ((List.reverse_perm _).trans (List.mergeSort_perm _ _)), sum_allW]
    omega

/-! ### Swapped -/
theorem find_ids {xs ys : List BR} {id : Int} (h1 : bookB xs = true) (h2 : bookB ys = true) (he : ys.map (·.id) = xs.map (·.id)) : findV ys id = findV xs id := by
  have key : ∀ l : List BR, idxV (hasId id) l = idxV (fun z : Int => z == id) (l.map (·.id)) := fun l => by
    unfold idxV
    rw [List.findIdx?_map]
    rfl
  rw [findV, findV, if_pos h1, if_pos h2, key, key, he]
theorem withV_ids (xs : List BR) (i : Int) (ws : List Int) : (withV xs i ws).map (·.id) = xs.map (·.id) := by
  apply List.ext_getElem?
  intro j
  simp only [withV, List.getElem?_map, List.getElem?_mapIdx]
  cases xs[j]? with
  | none => rfl
  | some y => simp only [Option.map_some]; split <;> rfl
theorem withV_bookB {xs : List BR} {k : Nat} {ws : List Int} (hv : bookB xs = true) (hk : k < xs.length) (hr : rowB ws = true) : bookB (withV xs (k : Int) ws) = true :=
  bookB_with hv (List.getElem?_eq_getElem hk) hr
theorem sw_twice {xs : List BR} {a b : Int} (h : swB xs a b = true) : swB (swV xs a b) a b = true ∧ swV (swV xs a b) a b = xs := by
  rcases sw_ways xs a b with ⟨hB, -⟩ | ⟨-, hv, i, k, x, y, hfi, hfk, hi, hk, hx, hy, hrx, hry, hV⟩
  · rw [hB] at h; cases h
  · have hb1 : bookB (withV xs (i : Int) y.ws) = true := withV_bookB hv hi hry
    have hb2 : bookB (swV xs a b) = true := by rw [hV]; exact withV_bookB hb1 (by rw [withV_len]; exact hk) hrx
    have hids : (swV xs a b).map (·.id) = xs.map (·.id) := by rw [hV, withV_ids, withV_ids]
    have fa := find_ids (id := a) hv hb2 hids
    have fb := find_ids (id := b) hv hb2 hids
    rw [hfi] at fa
    rw [hfk] at fb
    have hsw : swB (swV xs a b) a b = true := by
      simp only [swB, Bool.and_eq_true, decide_eq_true_eq]; omega
    refine ⟨hsw, ?_⟩
    have gi : (swV xs a b)[i]? = some ⟨x.id, y.ws⟩ ∨ i = k ∧ (swV xs a b)[i]? = some ⟨x.id, x.ws⟩ := by
      rw [hV, withV_get (withV_get hx)]
      by_cases e : i = k
      · right; subst e; simp
      · left; rw [if_neg (by omega), if_pos rfl]
    have gk : (swV xs a b)[k]? = some ⟨y.id, x.ws⟩ := by
      rw [hV, withV_get (withV_get hy), if_pos rfl]
      by_cases e : i = k
      · subst e; simp
      · rw [if_neg (by omega)]
    rw [swV, if_pos hsw, fa, fb, atB_at gk]
    rcases gi with gi | ⟨e, gi⟩
    · rw [atB_at gi, hV]
      apply List.ext_getElem?
      intro j
      simp only [withV, List.getElem?_mapIdx]
      by_cases ek : j = k
      · subst ek
        rw [hy]
        simp
      · by_cases ei : j = i
        · subst ei
          rw [hx]
          simp [show ¬ ((j : Int) = (k : Int)) by omega]
        · cases xs[j]? with
          | none => rfl
          | some u => simp [show ¬ ((j : Int) = (k : Int)) by omega, show ¬ ((j : Int) = (i : Int)) by omega]
    · subst e
      rw [hx] at hy; injection hy with hy; subst hy
      rw [atB_at gi, hV]
      apply List.ext_getElem?
      intro j
      simp only [withV, List.getElem?_mapIdx]
      by_cases ek : j = i
      · subst ek
        rw [hx]
        simp
      · cases xs[j]? with
        | none => rfl
        | some u => simp [show ¬ ((j : Int) = (i : Int)) by omega]

/-! ### Tight -/
theorem book_sorted {xs : List BR} (h : bookB xs = true) : ∀ {j i : Nat} {x y : BR}, i < j → xs[i]? = some x → xs[j]? = some y → x.id < y.id
  | 0, i, x, y, hij, _, _ => by omega
  | j + 1, i, x, y, hij, hx, hy => by
    have hj : j < xs.length := by have := (List.getElem?_eq_some_iff.1 hy).1; omega
    have ho : xs[j].id < y.id := by
      have := allA_ord (bookB_yes h).1 hy (List.getElem?_eq_getElem hj)
      simpa only [idLt, decide_eq_true_eq] using this
    by_cases e : i = j
    · subst e
      rw [List.getElem?_eq_getElem hj] at hx; injection hx with hx; subst hx; exact ho
    · have := book_sorted h (j := j) (by omega) hx (List.getElem?_eq_getElem hj)
      omega
theorem ts_room {xs : List BR} {z : Int} (h : tsB xs z = true) : 0 ≤ findV xs (tsV xs z) ∧ z ≤ restV xs (tsV xs z) := by
  have h' := h
  simp only [tsB, Bool.and_eq_true, decide_eq_true_eq] at h'
  obtain ⟨hv, hz, ht⟩ := h'
  obtain ⟨m, x, hm, hml, hx, hr⟩ := tight_at ht
  have hV : tsV xs z = x.id := by rw [tsV, if_pos h, hm, atB_at hx]
  rw [hV]
  have hf : findV xs x.id = m := by
    unfold findV
    rw [if_pos hv]
    refine idxV_hit (x := x) (fun j y hj hy => ?_) hx (by simp [hasId])
    have := book_sorted hv hj hy hx
    simp only [hasId, beq_eq_false_iff_ne]; omega
  refine ⟨by omega, ?_⟩
  rw [restV, hf, atB_at hx, if_neg (by omega)]
  obtain ⟨h1, h2, h3⟩ := rowB_yes hr
  unfold endV at h3 ⊢
  rw [sum_snoc, List.length_append] at h3
  simp only [List.length_cons, List.length_nil] at h3
  omega
end Go.Proofs.YtacacibpehnmgaaGreatDoor
