/- The greatest cover of an item, and the first gap: the program's loops over days and the reference's over insurances find the same days. -/
import Derived.Test.YtiafiehglfmjaaaDoorInsB
namespace Go.Proofs.YtiafiehglfmjaaaDoor
set_option linter.unusedVariables false
set_option linter.unusedSimpArgs false
open Go.RowKit

theorem sumF_mono {f g : R5 → Int} : ∀ {xs : List R5}, (∀ x ∈ xs, f x ≤ g x) → sumF f xs ≤ sumF g xs
  | [], _ => by simp [sumF]
  | x :: xs, h => by
    have ih := sumF_mono (f := f) (g := g) (xs := xs) (fun y hy => h y (List.mem_cons_of_mem _ hy))
    have hx := h x (List.mem_cons_self ..)
    simp only [sumF, List.map_cons, List.sum_cons] at *
    omega
theorem sumF_zero {f : R5 → Int} {xs : List R5} (h : ∀ x ∈ xs, f x = 0) : sumF f xs = 0 := by
  induction xs with
  | nil => rfl
  | cons y ys ih =>
    have := ih (fun x hx => h x (List.mem_cons_of_mem _ hx))
    have hy := h y (List.mem_cons_self ..)
    simp only [sumF, List.map_cons, List.sum_cons] at *; omega
theorem sumF_ge {f : R5 → Int} : ∀ {xs : List R5} {x : R5}, (∀ y ∈ xs, 0 ≤ f y) → x ∈ xs → f x ≤ sumF f xs
  | y :: xs, x, h, hx => by
    have h0 : 0 ≤ sumF f xs := by
      have := sumF_mono (f := fun _ => 0) (g := f) (xs := xs) (fun z hz => h z (List.mem_cons_of_mem _ hz))
      have e : sumF (fun _ => 0) xs = 0 := sumF_zero fun _ _ => rfl
      omega
    have hy := h y (List.mem_cons_self ..)
    rcases List.mem_cons.1 hx with rfl | hx
    · simp only [sumF, List.map_cons, List.sum_cons] at *; omega
    · have := sumF_ge (f := f) (xs := xs) (fun z hz => h z (List.mem_cons_of_mem _ hz)) hx
      simp only [sumF, List.map_cons, List.sum_cons] at *; omega
theorem exists_max {p : R5 → Bool} : ∀ {xs : List R5}, (∃ x ∈ xs, p x = true) → ∃ x ∈ xs, p x = true ∧ ∀ y ∈ xs, p y = true → y.b ≤ x.b
  | [], h => by obtain ⟨x, hx, _⟩ := h; cases hx
  | z :: xs, h => by
    by_cases hh : ∃ x ∈ xs, p x = true
    · obtain ⟨x, hx, hp, hm⟩ := exists_max hh
      by_cases hz : p z = true ∧ x.b < z.b
      · refine ⟨z, List.mem_cons_self .., hz.1, fun y hy hpy => ?_⟩
        rcases List.mem_cons.1 hy with rfl | hy
        · exact Int.le_refl _
        · have := hm y hy hpy; omega
      · refine ⟨x, List.mem_cons_of_mem _ hx, hp, fun y hy hpy => ?_⟩
        rcases List.mem_cons.1 hy with rfl | hy
        · have : ¬ x.b < y.b := fun h => hz ⟨hpy, h⟩
          omega
        · exact hm y hy hpy
    · obtain ⟨x, hx, hp⟩ := h
      rcases List.mem_cons.1 hx with rfl | hx
      · refine ⟨x, List.mem_cons_self .., hp, fun y hy hpy => ?_⟩
        rcases List.mem_cons.1 hy with rfl | hy
        · exact Int.le_refl _
        · exact absurd ⟨y, hy, hpy⟩ hh
      · exact absurd ⟨x, hx, hp⟩ hh

theorem hold_iff {item day : Int} {x : R5} : holdB item day x = true ↔ x.a = item ∧ x.b ≤ day ∧ day ≤ x.c := by simp [holdB, inR]
/-- On the first day of an insurance of the item there is a cover. -/
theorem cov_from {xs : List R5} (hv : insL xs = true) {x : R5} (hx : x ∈ xs) {item : Int} (ha : x.a = item) : 0 < cov xs item x.b := by
  have hb := insB_bd (insL_mem hv hx)
  have h1 : covF item x.b x = x.d := by rw [covF, if_pos (hold_iff.2 ⟨ha, by omega, by omega⟩)]
  have := sumF_ge (f := covF item x.b) (xs := xs) (fun y hy => (covF_bd (insL_mem hv hy) item x.b).1) hx
  unfold cov; omega
/-- Where there is a cover, an insurance that began has at its beginning at least this cover. -/
theorem cov_back {xs : List R5} (hv : insL xs = true) {item day : Int} (h : 0 < cov xs item day) : ∃ x ∈ xs, x.a = item ∧ x.b ≤ day ∧ cov xs item day ≤ cov xs item x.b := by
  have hex : ∃ x ∈ xs, holdB item day x = true := by
    by_cases hh : ∃ x ∈ xs, holdB item day x = true
    · exact hh
    · have : cov xs item day = 0 := sumF_zero fun x hx => by
        rw [covF, if_neg (fun hp => hh ⟨x, hx, hp⟩)]
      omega
  obtain ⟨x, hx, hp, hm⟩ := exists_max hex
  obtain ⟨h1, h2, h3⟩ := hold_iff.1 hp
  refine ⟨x, hx, h1, h2, sumF_mono fun y hy => ?_⟩
  have hd := (insB_bd (insL_mem hv hy)).2.2.2.2.1
  by_cases hq : holdB item day y = true
  · have := hm y hy hq
    obtain ⟨g1, g2, g3⟩ := hold_iff.1 hq
    rw [covF, if_pos hq, covF, if_pos (hold_iff.2 ⟨g1, this, by omega⟩)]
    exact Int.le_refl _
  · rw [covF, if_neg hq]; exact (covF_bd (insL_mem hv hy) item x.b).1
/-- The insurances of one item stand by their first days. -/
theorem ins_sorted {xs : List R5} (hv : insL xs = true) : ∀ (d i : Nat) (x y : R5), xs[i]? = some x → xs[i + d + 1]? = some y → insBefore x y = true
  | 0, i, x, y, hx, hy => by
    simp only [insL, Bool.and_eq_true] at hv
    exact allG_ord hv.1 hy hx
  | d + 1, i, x, y, hx, hy => by
    have hl := (List.getElem?_eq_some_iff.1 hy).1
    obtain ⟨z, hz⟩ : ∃ z, xs[i + d + 1]? = some z := ⟨xs[i + d + 1], List.getElem?_eq_getElem (by omega)⟩
    have h1 := ins_sorted hv d i x z hx hz
    simp only [insL, Bool.and_eq_true] at hv
    have h2 := allG_ord hv.1 (k := i + d + 1) (by rw [show i + d + 1 + 1 = i + (d + 1) + 1 by omega]; exact hy) hz
    simp only [insBefore, decide_eq_true_eq] at *
    omega
theorem ins_lt {xs : List R5} (hv : insL xs = true) {i j : Nat} {x y : R5} (hij : i < j) (hx : xs[i]? = some x) (hy : xs[j]? = some y) (ha : x.a = y.a) : x.b < y.b := by
  have := ins_sorted hv (j - i - 1) i x y hx (by rw [show i + (j - i - 1) + 1 = j by omega]; exact hy)
  simp only [insBefore, decide_eq_true_eq] at this
  omega

/-! ### The greatest cover -/
def GcP (xs : List R5) (item j B M : Int) : Prop :=
  (M = 0 ∧ B = 0 ∧ ∀ d, 0 ≤ d → d < j → cov xs item d ≤ 0) ∨
  (0 < M ∧ 0 ≤ B ∧ B < j ∧ cov xs item B = M ∧ ∀ d, 0 ≤ d → d < j → cov xs item d ≤ M ∧ (cov xs item d = M → B ≤ d))
theorem GcP.new {xs : List R5} {item j B M : Int} (h : GcP xs item j B M) (hj : 0 ≤ j) (hs : M < cov xs item j) : GcP xs item (j + 1) j (cov xs item j) := by
  have hM : 0 ≤ M := by rcases h with ⟨h, _⟩ | ⟨h, _⟩ <;> omega
  refine .inr ⟨by omega, hj, by omega, rfl, fun b h1 h2 => ?_⟩
  by_cases hb : b = j
  · subst hb; exact ⟨Int.le_refl _, fun _ => Int.le_refl _⟩
  · have : cov xs item b ≤ M := by
      rcases h with ⟨h, _, h3⟩ | ⟨_, _, _, _, h3⟩
      · have := h3 b h1 (by omega); omega
      · exact (h3 b h1 (by omega)).1
    exact ⟨by omega, fun e => by omega⟩
theorem GcP.old {xs : List R5} {item j B M : Int} (h : GcP xs item j B M) (hj : 0 ≤ j) (hs : cov xs item j ≤ M) : GcP xs item (j + 1) B M := by
  rcases h with ⟨h1, h2, h3⟩ | ⟨h1, h2, h3, h4, h5⟩
  · refine .inl ⟨h1, h2, fun b hb1 hb2 => ?_⟩
    by_cases hb : b = j
    · subst hb; omega
    · exact h3 b hb1 (by omega)
  · refine .inr ⟨h1, h2, by omega, h4, fun b hb1 hb2 => ?_⟩
    by_cases hb : b = j
    · subst hb; exact ⟨hs, fun _ => by omega⟩
    · exact h5 b hb1 (by omega)
theorem GcP.uniq {xs : List R5} {item j B M B' M' : Int} (h : GcP xs item j B M) (h' : GcP xs item j B' M') : B = B' ∧ M = M' := by
  rcases h with ⟨h1, h2, h3⟩ | ⟨h1, h2, h3, h4, h5⟩ <;> rcases h' with ⟨g1, g2, g3⟩ | ⟨g1, g2, g3, g4, g5⟩
  · omega
  · have := h3 B' g2 g3; omega
  · have := g3 B h2 h3; omega
  · have a := h5 B' g2 g3; have b := g5 B h2 h3
    have e : M = M' := by omega
    have := a.2 (by omega); have := b.2 (by omega); omega
def gcB (xs : List R5) (item : Int) : Bool := insL xs && inR item 1 999
noncomputable def gcV (xs : List R5) (item : Int) : Int × Int := open Classical in if h : gcB xs item = true ∧ ∃ q : Int × Int, GcP xs item 4001 q.1 q.2 then h.2.choose else (0, 0)
theorem gcV_no {xs : List R5} {item : Int} (h : gcB xs item = false) : gcV xs item = (0, 0) := by unfold gcV; rw [dif_neg]; intro h'; rw [h] at h'; exact absurd h'.1 (by simp)
theorem gcV_eq {xs : List R5} {item B M : Int} (hv : gcB xs item = true) (h : GcP xs item 4001 B M) : B = (gcV xs item).1 ∧ M = (gcV xs item).2 := by
  have hh : gcB xs item = true ∧ ∃ q : Int × Int, GcP xs item 4001 q.1 q.2 := ⟨hv, (B, M), h⟩
  unfold gcV
  rw [dif_pos hh]
  exact h.uniq hh.2.choose_spec
theorem ret_iib {k : IntKind} {a b a' b' : Int} {c d : Bool} (h : a = b) (h' : a' = b') (g : c = d) : Ending.returned (.tuple #[.int k a, .int k a', .bool c]) = .returned (.tuple #[.int k b, .int k b', .bool d]) := by rw [h, h', g]

/-- Of the first k insurances, those of the item: the first one at whose beginning the cover is greatest. -/
def GcS (xs : List R5) (item : Int) (k : Nat) (B M : Int) : Prop :=
  (M = 0 ∧ B = 0 ∧ ∀ (i : Nat) x, i < k → xs[i]? = some x → x.a ≠ item) ∨
  (0 < M ∧ (∃ (i : Nat) (x : R5), i < k ∧ xs[i]? = some x ∧ x.a = item ∧ x.b = B) ∧ cov xs item B = M ∧ ∀ (i : Nat) x, i < k → xs[i]? = some x → x.a = item → cov xs item x.b ≤ M ∧ (cov xs item x.b = M → B ≤ x.b))
theorem GcS.skip {xs : List R5} {item : Int} {k : Nat} {B M : Int} {x : R5} (h : GcS xs item k B M) (hx : xs[k]? = some x) (hc : x.a ≠ item) : GcS xs item (k + 1) B M := by
  rcases h with ⟨h1, h2, h3⟩ | ⟨h1, ⟨i0, x0, a1, a2, a3, a4⟩, h4, h5⟩
  · refine .inl ⟨h1, h2, fun i y hi hy => ?_⟩
    rcases Nat.lt_or_ge i k with h | h
    · exact h3 i y h hy
    · have : i = k := by omega
      subst this; rw [hx] at hy; injection hy with hy; subst hy; exact hc
  · refine .inr ⟨h1, ⟨i0, x0, by omega, a2, a3, a4⟩, h4, fun i y hi hy hc' => ?_⟩
    rcases Nat.lt_or_ge i k with h | h
    · exact h5 i y h hy hc'
    · have : i = k := by omega
      subst this; rw [hx] at hy; injection hy with hy; subst hy; exact absurd hc' hc
theorem GcS.new {xs : List R5} {item : Int} {k : Nat} {B M : Int} {x : R5} (hv : insL xs = true) (h : GcS xs item k B M) (hx : xs[k]? = some x) (hc : x.a = item) (hs : M < cov xs item x.b) : GcS xs item (k + 1) x.b (cov xs item x.b) := by
  have hp := cov_from hv (List.mem_of_getElem? hx) hc
  refine .inr ⟨hp, ⟨k, x, by omega, hx, hc, rfl⟩, rfl, fun i y hi hy hc' => ?_⟩
  rcases Nat.lt_or_ge i k with h' | h'
  · rcases h with ⟨_, _, h3⟩ | ⟨h1, h2, h4, h5⟩
    · exact absurd hc' (h3 i y h' hy)
    · have := (h5 i y h' hy hc').1
      exact ⟨by omega, fun e => by omega⟩
  · have : i = k := by omega
    subst this; rw [hx] at hy; injection hy with hy; subst hy
    exact ⟨Int.le_refl _, fun _ => Int.le_refl _⟩
theorem GcS.old {xs : List R5} {item : Int} {k : Nat} {B M : Int} {x : R5} (hv : insL xs = true) (h : GcS xs item k B M) (hx : xs[k]? = some x) (hc : x.a = item) (hs : cov xs item x.b ≤ M) : GcS xs item (k + 1) B M := by
  have hp := cov_from hv (List.mem_of_getElem? hx) hc
  rcases h with ⟨h1, h2, h3⟩ | ⟨h1, ⟨i0, x0, a1, a2, a3, a4⟩, h4, h5⟩
  · omega
  · refine .inr ⟨h1, ⟨i0, x0, by omega, a2, a3, a4⟩, h4, fun i y hi hy hc' => ?_⟩
    rcases Nat.lt_or_ge i k with h | h
    · exact h5 i y h hy hc'
    · have : i = k := by omega
      subst this; rw [hx] at hy; injection hy with hy; subst hy
      have := ins_lt hv a1 a2 hx (by omega)
      exact ⟨hs, fun _ => by omega⟩
theorem GcS.all {xs : List R5} {item : Int} {k : Nat} {B M : Int} (hv : insL xs = true) (h : GcS xs item k B M) (hk : xs.length ≤ k) : GcP xs item 4001 B M := by
  have key : ∀ d, cov xs item d ≤ 0 ∨ ∃ (i : Nat) (x : R5), i < k ∧ xs[i]? = some x ∧ x.a = item ∧ x.b ≤ d ∧ cov xs item d ≤ cov xs item x.b := fun d => by
    by_cases hd : 0 < cov xs item d
    · right
      obtain ⟨x, hx, h1, h2, h3⟩ := cov_back hv hd
      obtain ⟨i, hi, rfl⟩ := List.getElem_of_mem hx
      exact ⟨i, xs[i], by omega, List.getElem?_eq_getElem hi, h1, h2, h3⟩
    · left; omega
  rcases h with ⟨h1, h2, h3⟩ | ⟨h1, ⟨i0, x0, a1, a2, a3, a4⟩, h4, h5⟩
  · refine .inl ⟨h1, h2, fun d _ _ => ?_⟩
    rcases key d with h | ⟨i, x, hi, hx, hc, _⟩
    · exact h
    · exact absurd hc (h3 i x hi hx)
  · have hb := (insB_bd (insL_at hv a2)).2.1
    refine .inr ⟨h1, by omega, by omega, h4, fun d hd0 _ => ?_⟩
    rcases key d with h | ⟨i, x, hi, hx, hc, he, hle⟩
    · exact ⟨by omega, fun e => by omega⟩
    · have := h5 i x hi hx hc
      refine ⟨by omega, fun e => ?_⟩
      have := this.2 (by omega)
      omega

set_option maxHeartbeats 2000000 in
theorem implGreatestCover_any (A : Option Addr) (n c : Nat) (xs : List R5) (item : Int) (w : World) (hn : xs.length = n) (hA : Rd w A (cells5 xs)) (h20 : n ≤ 1048576) :
    Calls Tryd.prog 9 #[.slice A n c, .int .i64 item] w (Ret (.tuple #[.int .i64 (gcV xs item).1, .int .i64 (gcV xs item).2, .bool (decide (0 < (gcV xs item).2))]) w) := by
  obtain ⟨p, hp⟩ : ∃ p, p = gcV xs item := ⟨_, rfl⟩
  rw [← hp]
  have HP := Lib.hid hp
  clear hp
  go_enter Tryd.func9, Tryd.ntmps9
  go_wp2_with fail
  refine (areInsured_any A n c xs _ hn hA h20).mono ?_
  rintro e w1 ⟨rfl, b1⟩
  have hA1 := Lib.hid (hA.below b1)
  go_wp2_with (first
    | (go_at_call 24; refine (isItem_any _ _).mono ?_; rintro e w' ⟨rfl, rfl⟩)
    | fail)
  any_goals (go_ret3; exact ⟨by rw [HP.out, gcV_no (by go_light; grind [gcB])]; rfl, b1⟩)
  have hv : insL xs = true := by assumption
  have hi : inR item 1 999 = true := by go_light; grind
  simp only [hv, hi, Bool.not_true, Bool.and_true, Bool.true_and, Bool.and_self]
  have HV := Lib.hid hv
  have HB := Lib.hid (show gcB xs item = true by simp [gcB, hv, hi])
  clear hv hi hA
  go_loopw [7, 8, 19] (fun b m i wr => ∃ (j B M : Int), 0 ≤ j ∧ j ≤ 4001 ∧ i = .int .i64 j ∧ b = .int .i64 B ∧ m = .int .i64 M ∧ GcP xs item j B M ∧ Below w1.heap.size w1 wr) (fun _ _ i _ => (4001 - intOf i).toNat)
  case atStart => exact ⟨0, 0, 0, by omega, by omega, rfl, rfl, rfl, .inl ⟨rfl, rfl, fun d h1 h2 => by omega⟩, Below.refl _ _⟩
  case round =>
    obtain ⟨j, B, M, hj1, hj2, rfl, rfl, rfl, hrel, hb⟩ := hrel
    have HR := Lib.hid hrel
    clear hrel
    by_cases hlt : j < 4001
    · go_wp2_with fail
      refine (coverOn_any A n c xs item j _ hn (hA1.out.below hb) HV.out).mono ?_
      rintro e w2 ⟨rfl, b2⟩
      obtain ⟨S, hS⟩ : ∃ S, S = cov xs item j := ⟨_, rfl⟩
      rw [← hS]
      have HS := Lib.hid hS
      clear hS
      go_wp2
      · have hgt : M < S := by assumption
        go_roundw
        case rel => exact ⟨j + 1, _, _, by omega, by omega, by go_num, rfl, by rw [HS.out], HR.out.new hj1 (by rw [← HS.out]; exact hgt), hb.trans (b2.mono hb.size)⟩
        case measure => simp [intOf]; omega
      · have hle : S ≤ M := by assumption
        go_roundw
        case rel => exact ⟨j + 1, _, _, by omega, by omega, by go_num, rfl, rfl, HR.out.old hj1 (by rw [← HS.out]; exact hle), hb.trans (b2.mono hb.size)⟩
        case measure => simp [intOf]; omega
    · have hj : j = 4001 := by omega
      have HJ := Lib.hid hj
      clear hj
      go_wp2
      go_ret3
      have e := gcV_eq HB.out (HJ.out ▸ HR.out)
      rw [← HP.out] at e
      exact ⟨ret_iib e.1 e.2 (by rw [e.2]), b1.trans (hb.mono b1.size)⟩

set_option maxHeartbeats 2000000 in
theorem specGreatestCover_any (A : Option Addr) (n c : Nat) (xs : List R5) (item : Int) (w : World) (hn : xs.length = n) (hA : Rd w A (cells5 xs)) (h20 : n ≤ 1048576) :
    Calls Tryd.prog 10 #[.slice A n c, .int .i64 item] w (Ret (.tuple #[.int .i64 (gcV xs item).1, .int .i64 (gcV xs item).2, .bool (decide (0 < (gcV xs item).2))]) w) := by
  obtain ⟨p, hp⟩ : ∃ p, p = gcV xs item := ⟨_, rfl⟩
  rw [← hp]
  have HP := Lib.hid hp
  clear hp
  go_enter Tryd.func10, Tryd.ntmps10
  go_wp2_with fail
  refine (l26Good_any A n c xs _ hn hA h20).mono ?_
  rintro e w1 ⟨rfl, b1⟩
  have hA1 := Lib.hid (hA.below b1)
  go_wp2_with (first
    | (go_at_call 29; refine (l26Item_any _ _).mono ?_; rintro e w' ⟨rfl, rfl⟩)
    | fail)
  any_goals (go_ret3; exact ⟨by rw [HP.out, gcV_no (by go_light; grind [gcB])]; rfl, b1⟩)
  have hv : insL xs = true := by assumption
  have hi : inR item 1 999 = true := by go_light; grind
  simp only [hv, hi, Bool.not_true, Bool.and_true, Bool.true_and, Bool.and_self]
  have HV := Lib.hid hv
  have HB := Lib.hid (show gcB xs item = true by simp [gcB, hv, hi])
  clear hv hi hA
  go_loopw [7, 8, 9] (fun b m i wr => ∃ (k : Nat) (B M : Int), k ≤ n ∧ i = .int .i64 k ∧ b = .int .i64 B ∧ m = .int .i64 M ∧ GcS xs item k B M ∧ Below w1.heap.size w1 wr) (fun _ _ i _ => n - (intOf i).toNat)
  case atStart => exact ⟨0, 0, 0, by omega, rfl, rfl, rfl, .inl ⟨rfl, rfl, fun i x hi => by omega⟩, Below.refl _ _⟩
  case round =>
    obtain ⟨k, B, M, hk, rfl, rfl, rfl, hrel, hb⟩ := hrel
    have HR := Lib.hid hrel
    clear hrel
    by_cases hlt : k < n
    · obtain ⟨x, hxk⟩ : ∃ x, xs[k]? = some x := ⟨xs[k], List.getElem?_eq_getElem (by omega)⟩
      obtain ⟨g, o, hAe, hg, c0, c1, c2, c3, c4⟩ := (hA1.out.below hb).at5 hxk
      have hA2 := Lib.hid (hA1.out.below hb)
      subst hAe
      have HX := Lib.hid hxk
      clear hxk
      by_cases hc : x.a = item
      · have h1 : (x.a != item) = false := by simp [hc]
        have HC := Lib.hid hc
        clear hc
        go_wp2_with fail
        refine (l26Cover_any _ n c xs item x.b _ hn hA2.out HV.out).mono ?_
        rintro e w2 ⟨rfl, b2⟩
        obtain ⟨S, hS⟩ : ∃ S, S = cov xs item x.b := ⟨_, rfl⟩
        rw [← hS]
        have HS := Lib.hid hS
        clear hS
        obtain ⟨bc, bf⟩ := bcell b2
        go_wp2
        · have h1 : M < S := by assumption
          go_roundw
          case rel => exact ⟨k + 1, _, _, by omega, by go_num, rfl, by rw [HS.out], HR.out.new HV.out HX.out HC.out (by rw [← HS.out]; exact h1), hb.trans (b2.mono hb.size)⟩
          case measure => simp [intOf]; omega
        · have h1 : S ≤ M := by assumption
          go_roundw
          case rel => exact ⟨k + 1, _, _, by omega, by go_num, rfl, rfl, HR.out.old HV.out HX.out HC.out (by rw [← HS.out]; exact h1), hb.trans (b2.mono hb.size)⟩
          case measure => simp [intOf]; omega
      · have h1 : (x.a != item) = true := by simp [hc]
        go_wp2
        go_roundw
        case rel => exact ⟨k + 1, _, _, by omega, by go_num, rfl, rfl, HR.out.skip HX.out hc, hb⟩
        case measure => simp [intOf]; omega
    · go_wp2
      go_ret3
      have e := gcV_eq HB.out (HR.out.all HV.out (by omega))
      rw [← HP.out] at e
      exact ⟨ret_iib e.1 e.2 (by rw [e.2]), b1.trans (hb.mono b1.size)⟩
end Go.Proofs.YtiafiehglfmjaaaDoor
