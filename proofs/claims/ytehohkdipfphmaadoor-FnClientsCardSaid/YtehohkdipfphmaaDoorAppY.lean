/- Approvals: items of rows, put together in order: what ItemsOut, BoughtBy and UnsoldItems return. -/
import Derived.Test.YtehohkdipfphmaaDoorAppP
import Derived.Test.YtehohkdipfphmaaDoorPutV
namespace Go.Proofs.YtehohkdipfphmaaDoor
set_option linter.unusedVariables false
set_option linter.unusedSimpArgs false
open Go.RowKit Go.Lib

theorem ascB_ss {zs : List Int} (h : ascB zs = true) : SS zs := by
  unfold ascB at h
  have h2 : ascP zs zs.length := @of_decide_eq_true _ (Classical.propDecidable _) h
  have key : ∀ (d i : Nat) (a b : Int), zs[i]? = some a → zs[i + (d + 1)]? = some b → a < b := by
    intro d
    induction d with
    | zero => intro i a b ha hb; exact h2 i a b (by have := (List.getElem?_eq_some_iff.1 hb).1; omega) ha hb
    | succ d ih =>
      intro i a b ha hb
      have hl := (List.getElem?_eq_some_iff.1 hb).1
      obtain ⟨c, hc⟩ : ∃ c, zs[i + (d + 1)]? = some c := ⟨zs[i + (d + 1)]'(by omega), List.getElem?_eq_getElem _⟩
      have h3 := ih i a c ha hc
      have h4 := h2 (i + (d + 1)) c b (by omega) hc (by rw [show i + (d + 1) + 1 = i + (d + 1 + 1) by omega]; exact hb)
      omega
  refine List.pairwise_iff_getElem.2 fun i j hi hj hij => ?_
  exact key (j - i - 1) i _ _ (List.getElem?_eq_getElem hi) (by rw [show i + (j - i - 1 + 1) = j by omega]; exact List.getElem?_eq_getElem hj)
theorem ss_len : ∀ {zs : List Int} {lo hi : Int}, SS zs → (∀ z ∈ zs, lo ≤ z ∧ z ≤ hi) → (zs.length : Int) ≤ max 0 (hi - lo + 1)
  | [], lo, hi, _, _ => by simp; omega
  | a :: zs, lo, hi, h, hb => by
    obtain ⟨h1, h2⟩ := List.pairwise_cons.1 h
    have ha := hb a (by simp)
    have ih := ss_len (lo := a + 1) (hi := hi) h2 (fun z hz => ⟨by have := h1 z hz; omega, (hb z (List.mem_cons_of_mem _ hz)).2⟩)
    simp only [List.length_cons]; omega
theorem ss_999 {zs : List Int} (h : SS zs) (hb : ∀ z ∈ zs, 1 ≤ z ∧ z ≤ 999) : zs.length ≤ 999 := by
  have := ss_len h hb; omega
theorem one_items {x : AR} (h : oneA x = true) : SS x.items ∧ ∀ z ∈ x.items, 1 ≤ z ∧ z ≤ 999 := by
  rw [oneA_impl] at h
  simp only [Bool.and_eq_true] at h
  refine ⟨ascB_ss h.2.2.2.2.1, fun z hz => ?_⟩
  have h2 := h.2.2.2.2.2.2.1
  unfold inAll at h2; rw [List.all_eq_true] at h2
  exact inR_true.1 (h2 z hz)
theorem one_kept {x : AR} (h : oneA x = true) : SS x.kept ∧ ∀ z ∈ x.kept, 1 ≤ z ∧ z ≤ 999 := by
  have h1 := h
  rw [oneA_impl] at h1
  simp only [Bool.and_eq_true] at h1
  exact ⟨ascB_ss h1.2.2.2.2.2.1, fun z hz => (one_items h).2 z (hasB_true.1 (kept_sub h (hasB_true.2 hz)))⟩

def catP (f : AR → List Int) (xs : List AR) (k : Nat) : List Int := (xs.take k).flatMap f
theorem catP_step {f : AR → List Int} {xs : List AR} {k : Nat} {x : AR} (h : xs[k]? = some x) : catP f xs (k + 1) = catP f xs k ++ f x := by simp [catP, List.take_add_one, h]
theorem catP_mem {f : AR → List Int} {xs : List AR} {k : Nat} {z : Int} (h : z ∈ catP f xs k) : ∃ (j : Nat) (y : AR), j < k ∧ xs[j]? = some y ∧ z ∈ f y := by
  obtain ⟨y, hy, hz⟩ := List.mem_flatMap.1 h
  obtain ⟨j, hj⟩ := List.getElem?_of_mem hy
  have hjl := (List.getElem?_eq_some_iff.1 hj).1
  rw [List.length_take] at hjl
  rw [List.getElem?_take_of_lt (by omega)] at hj
  exact ⟨j, y, by omega, hj, hz⟩
/-- The parts are short and lie within 1..999. -/
def okF (f : AR → List Int) (xs : List AR) : Prop := ∀ x ∈ xs, (f x).length ≤ 999 ∧ ∀ z ∈ f x, 1 ≤ z ∧ z ≤ 999
theorem catP_bd {f : AR → List Int} {xs : List AR} (h : okF f xs) (k : Nat) : ∀ z ∈ catP f xs k, 1 ≤ z ∧ z ≤ 999 := fun z hz => by
  obtain ⟨j, y, -, hy, hm⟩ := catP_mem hz
  exact (h y (List.mem_of_getElem? hy)).2 z hm
theorem catP_len {f : AR → List Int} {xs : List AR} (h : okF f xs) : ∀ k : Nat, (catP f xs k).length ≤ 999 * k
  | 0 => by simp [catP]
  | k + 1 => by
    have ih := catP_len h k
    cases hx : xs[k]? with
    | none => rw [show catP f xs (k + 1) = catP f xs k by simp [catP, List.take_add_one, hx]]; omega
    | some x =>
      rw [catP_step hx, List.length_append]
      have := (h x (List.mem_of_getElem? hx)).1; omega
theorem put_len {zs : List Int} (h : ∀ z ∈ zs, 1 ≤ z ∧ z ≤ 999) : (putAll zs).length ≤ 999 := ss_999 (putAll_ss zs) (fun z hz => h z ((putAll_mem zs).1 hz))
theorem putAll_app (zs ys : List Int) : putAll (zs ++ ys) = ys.foldl putV (putAll zs) := by simp [putAll]
theorem put_take {zs ys : List Int} {k : Nat} {y : Int} (h : ys[k]? = some y) : putAll (zs ++ ys.take (k + 1)) = putV (putAll (zs ++ ys.take k)) y := by
  rw [List.take_add_one, h]; simp only [Option.toList_some]; rw [← List.append_assoc, putAll_snoc]
theorem okF_items {xs : List AR} (hg : ∀ x ∈ xs, oneA x = true) (p : AR → Bool) : okF (fun x => if p x = true then x.items else []) xs := fun x hx => by
  show (if p x = true then x.items else []).length ≤ 999 ∧ ∀ z ∈ (if p x = true then x.items else []), 1 ≤ z ∧ z ≤ 999
  split
  · exact ⟨ss_999 (one_items (hg x hx)).1 (one_items (hg x hx)).2, (one_items (hg x hx)).2⟩
  · simp
theorem okF_kept {xs : List AR} (hg : ∀ x ∈ xs, oneA x = true) (p : AR → Bool) : okF (fun x => if p x = true then x.kept else []) xs := fun x hx => by
  show (if p x = true then x.kept else []).length ≤ 999 ∧ ∀ z ∈ (if p x = true then x.kept else []), 1 ≤ z ∧ z ≤ 999
  split
  · exact ⟨ss_999 (one_kept (hg x hx)).1 (one_kept (hg x hx)).2, (one_kept (hg x hx)).2⟩
  · simp
theorem okF_filter {xs : List AR} (hg : ∀ x ∈ xs, oneA x = true) (p : Int → Bool) : okF (fun x => x.items.filter p) xs := fun x hx => by
  show (x.items.filter p).length ≤ 999 ∧ ∀ z ∈ x.items.filter p, 1 ≤ z ∧ z ≤ 999
  have h1 := ss_999 (one_items (hg x hx)).1 (one_items (hg x hx)).2
  have h2 := List.length_filter_le p x.items
  exact ⟨by omega, fun z hz => (one_items (hg x hx)).2 z (List.mem_filter.1 hz).1⟩
theorem ss_nodup {zs : List Int} (h : SS zs) : zs.Nodup := h.imp (fun h => by omega)
/-- What was kept was kept once. -/
theorem kept_nodup {xs : List AR} (h : goodA xs = true) (p : AR → Bool) : ∀ k : Nat, (catP (fun x => if p x = true then x.kept else []) xs k).Nodup
  | 0 => by simp [catP]
  | k + 1 => by
    have ih := kept_nodup h p k
    cases hx : xs[k]? with
    | none => rw [show catP (fun x => if p x = true then x.kept else []) xs (k + 1) = catP (fun x => if p x = true then x.kept else []) xs k by simp [catP, List.take_add_one, hx]]; exact ih
    | some x =>
      rw [catP_step hx]
      have hone := goodA_ones h x (List.mem_of_getElem? hx)
      refine List.nodup_append.2 ⟨ih, ?_, fun a ha b hb => ?_⟩
      · show (if p x = true then x.kept else []).Nodup
        split
        · exact ss_nodup (one_kept hone).1
        · simp
      · rintro rfl
        obtain ⟨j, y, hj, hy, hm⟩ := catP_mem ha
        obtain ⟨hf, hoy⟩ := goodA_pairs h hx j y hj hy
        have ay : a ∈ y.kept := by
          have : a ∈ (if p y = true then y.kept else []) := hm
          split at this
          · exact this
          · simp at this
        have ax : a ∈ x.kept := by
          have : a ∈ (if p x = true then x.kept else []) := hb
          split at this
          · exact this
          · simp at this
        have h1 := freeB_at hf (kept_sub hone (hasB_true.2 ax))
        have h2 := kept_sub hoy (hasB_true.2 ay)
        have h3 := hasB_true.2 ay
        simp only [badZ, h2, h3, Bool.or_true, Bool.and_true] at h1
        cases h1
end Go.Proofs.YtehohkdipfphmaaDoor
