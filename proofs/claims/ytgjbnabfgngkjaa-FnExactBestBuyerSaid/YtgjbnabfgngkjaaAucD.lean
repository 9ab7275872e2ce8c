/- The bidder with the greatest sum: the program's loop over all bidders and the reference's loop over all lots find the same one. -/
import Derived.Test.YtgjbnabfgngkjaaAucC
namespace Go.Proofs.Ytgjbnabfgngkjaa
open Go.RowKit

theorem sumD_nonneg {p : R5 → Bool} : ∀ {xs : List R5}, (∀ x ∈ xs, 0 ≤ x.d) → 0 ≤ sumD p xs
  | [], _ => by simp [sumD]
  | y :: xs, h => by
    have ih := sumD_nonneg (p := p) (xs := xs) (fun x hx => h x (List.mem_cons_of_mem _ hx))
    have hy := h y (List.mem_cons_self ..)
    unfold sumD at *
    by_cases hp : p y = true <;> simp [List.filter_cons, hp] <;> omega
theorem sumD_ge {p : R5 → Bool} : ∀ {xs : List R5} {x : R5}, (∀ x ∈ xs, 0 ≤ x.d) → x ∈ xs → p x = true → x.d ≤ sumD p xs
  | y :: xs, x, h, hx, hp => by
    have ih := sumD_nonneg (p := p) (xs := xs) (fun x hx => h x (List.mem_cons_of_mem _ hx))
    have hy := h y (List.mem_cons_self ..)
    rcases List.mem_cons.1 hx with rfl | hx
    · unfold sumD at *; simp [hp]; omega
    · have := sumD_ge (p := p) (xs := xs) (fun x hx => h x (List.mem_cons_of_mem _ hx)) hx hp
      unfold sumD at *
      by_cases hq : p y = true <;> simp [List.filter_cons, hq] <;> omega
theorem sumD_none {p : R5 → Bool} {xs : List R5} (h : ∀ x ∈ xs, p x = false) : sumD p xs = 0 := by
  have : xs.filter p = [] := by rw [List.filter_eq_nil_iff]; intro x hx; simp [h x hx]
  simp [sumD, this]
theorem auc_mem {xs : List R5} (h : auc xs = true) : ∀ x ∈ xs, lotB x = true := fun x hx => by
  obtain ⟨i, hi, rfl⟩ := List.getElem_of_mem hx
  exact auc_at h (List.getElem?_eq_getElem hi)

/-- Of the bidders below j, B is the first one with the greatest sum M. -/
def BestP (xs : List R5) (j B M : Int) : Prop :=
  (M = 0 ∧ B = 0 ∧ ∀ b, 1 ≤ b → b < j → sumD (pSold b) xs ≤ 0) ∨
  (0 < M ∧ 1 ≤ B ∧ B < j ∧ sumD (pSold B) xs = M ∧ ∀ b, 1 ≤ b → b < j → sumD (pSold b) xs ≤ M ∧ (sumD (pSold b) xs = M → B ≤ b))
theorem BestP.start (xs : List R5) : BestP xs 1 0 0 := .inl ⟨rfl, rfl, fun b h1 h2 => by omega⟩
theorem BestP.new {xs : List R5} {j B M : Int} (h : BestP xs j B M) (hj : 1 ≤ j) (hs : M < sumD (pSold j) xs) : BestP xs (j + 1) j (sumD (pSold j) xs) := by
  have hM : 0 ≤ M := by rcases h with ⟨h, _⟩ | ⟨h, _⟩ <;> omega
  refine .inr ⟨by omega, hj, by omega, rfl, fun b h1 h2 => ?_⟩
  by_cases hb : b = j
  · subst hb; exact ⟨Int.le_refl _, fun _ => Int.le_refl _⟩
  · have : sumD (pSold b) xs ≤ M := by
      rcases h with ⟨h, _, h3⟩ | ⟨_, _, _, _, h3⟩
      · have := h3 b h1 (by omega); omega
      · exact (h3 b h1 (by omega)).1
    exact ⟨by omega, fun e => by omega⟩
theorem BestP.old {xs : List R5} {j B M : Int} (h : BestP xs j B M) (hj : 1 ≤ j) (hs : sumD (pSold j) xs ≤ M) : BestP xs (j + 1) B M := by
  rcases h with ⟨h1, h2, h3⟩ | ⟨h1, h2, h3, h4, h5⟩
  · refine .inl ⟨h1, h2, fun b hb1 hb2 => ?_⟩
    by_cases hb : b = j
    · subst hb; omega
    · exact h3 b hb1 (by omega)
  · refine .inr ⟨h1, h2, by omega, h4, fun b hb1 hb2 => ?_⟩
    by_cases hb : b = j
    · subst hb; exact ⟨hs, fun _ => by omega⟩
    · exact h5 b hb1 (by omega)
theorem BestP.uniq {xs : List R5} {j B M B' M' : Int} (h : BestP xs j B M) (h' : BestP xs j B' M') : B = B' := by
  rcases h with ⟨h1, h2, h3⟩ | ⟨h1, h2, h3, h4, h5⟩ <;> rcases h' with ⟨g1, g2, g3⟩ | ⟨g1, g2, g3, g4, g5⟩
  · omega
  · have := h3 B' g2 g3; omega
  · have := g3 B h2 h3; omega
  · have a := h5 B' g2 g3; have b := g5 B h2 h3
    have e : M = M' := by omega
    have := a.2 (by omega); have := b.2 (by omega); omega
/-- The best buyer, or 0. -/
noncomputable def bestV (xs : List R5) : Int := open Classical in if h : auc xs = true ∧ ∃ B M, BestP xs 1000 B M then h.2.choose else 0
theorem bestV_no {xs : List R5} (h : auc xs = false) : bestV xs = 0 := by unfold bestV; rw [dif_neg]; intro h'; rw [h] at h'; exact absurd h'.1 (by simp)
theorem bestV_eq {xs : List R5} {B M : Int} (hv : auc xs = true) (h : BestP xs 1000 B M) : B = bestV xs := by
  have hh : auc xs = true ∧ ∃ B M, BestP xs 1000 B M := ⟨hv, B, M, h⟩
  unfold bestV
  rw [dif_pos hh]
  obtain ⟨M', h'⟩ := hh.2.choose_spec
  exact h.uniq h'

/-- Of the first k lots, B is the least bidder with the greatest sum M. -/
def BestS (xs : List R5) (k : Nat) (B M : Int) : Prop :=
  (M = 0 ∧ B = 0 ∧ ∀ (i : Nat) x, i < k → xs[i]? = some x → x.c ≠ 2) ∨
  (0 < M ∧ 1 ≤ B ∧ B < 1000 ∧ sumD (pSold B) xs = M ∧ ∀ (i : Nat) x, i < k → xs[i]? = some x → x.c = 2 → sumD (pSold x.e) xs ≤ M ∧ (sumD (pSold x.e) xs = M → B ≤ x.e))
theorem BestS.skip {xs : List R5} {k : Nat} {B M : Int} {x : R5} (h : BestS xs k B M) (hx : xs[k]? = some x) (hc : x.c ≠ 2) : BestS xs (k + 1) B M := by
  rcases h with ⟨h1, h2, h3⟩ | ⟨h1, h2, h3, h4, h5⟩
  · refine .inl ⟨h1, h2, fun i y hi hy => ?_⟩
    rcases Nat.lt_or_ge i k with h | h
    · exact h3 i y h hy
    · have : i = k := by omega
      subst this; rw [hx] at hy; injection hy with hy; subst hy; exact hc
  · refine .inr ⟨h1, h2, h3, h4, fun i y hi hy hc' => ?_⟩
    rcases Nat.lt_or_ge i k with h | h
    · exact h5 i y h hy hc'
    · have : i = k := by omega
      subst this; rw [hx] at hy; injection hy with hy; subst hy; exact absurd hc' hc
theorem lot_sold {x : R5} (h : lotB x = true) (hc : x.c = 2) : 1 ≤ x.d ∧ 1 ≤ x.e ∧ x.e ≤ 999 := by
  simp only [lotB, decide_eq_true_eq] at h; omega
theorem BestS.new {xs : List R5} {k : Nat} {B M : Int} {x : R5} (hv : ∀ x ∈ xs, lotB x = true) (h : BestS xs k B M) (hx : xs[k]? = some x) (hc : x.c = 2)
    (hs : M < sumD (pSold x.e) xs ∨ sumD (pSold x.e) xs = M ∧ x.e < B) : BestS xs (k + 1) x.e (sumD (pSold x.e) xs) := by
  have hl := lot_sold (hv x (List.mem_of_getElem? hx)) hc
  have hg := sumD_ge (p := pSold x.e) (fun y hy => (lot_bd (hv y hy)).2.2.1.1) (List.mem_of_getElem? hx) (by simp [pSold, hc])
  refine .inr ⟨by omega, by omega, by omega, rfl, fun i y hi hy hc' => ?_⟩
  rcases Nat.lt_or_ge i k with h' | h'
  · rcases h with ⟨_, _, h3⟩ | ⟨h1, h2, h3, h4, h5⟩
    · exact absurd hc' (h3 i y h' hy)
    · have := h5 i y h' hy hc'
      refine ⟨by omega, fun e => ?_⟩
      have := this.2
      omega
  · have : i = k := by omega
    subst this; rw [hx] at hy; injection hy with hy; subst hy
    exact ⟨Int.le_refl _, fun _ => Int.le_refl _⟩
theorem BestS.old {xs : List R5} {k : Nat} {B M : Int} {x : R5} (hv : ∀ x ∈ xs, lotB x = true) (h : BestS xs k B M) (hx : xs[k]? = some x) (hc : x.c = 2)
    (hs : ¬ (M < sumD (pSold x.e) xs ∨ sumD (pSold x.e) xs = M ∧ x.e < B)) : BestS xs (k + 1) B M := by
  have hl := lot_sold (hv x (List.mem_of_getElem? hx)) hc
  have hg := sumD_ge (p := pSold x.e) (fun y hy => (lot_bd (hv y hy)).2.2.1.1) (List.mem_of_getElem? hx) (by simp [pSold, hc])
  rcases h with ⟨h1, h2, h3⟩ | ⟨h1, h2, h3, h4, h5⟩
  · omega
  · refine .inr ⟨h1, h2, h3, h4, fun i y hi hy hc' => ?_⟩
    rcases Nat.lt_or_ge i k with h | h
    · exact h5 i y h hy hc'
    · have : i = k := by omega
      subst this; rw [hx] at hy; injection hy with hy; subst hy
      exact ⟨by omega, fun e => by omega⟩
theorem BestS.all {xs : List R5} {k : Nat} {B M : Int} (hv : ∀ x ∈ xs, lotB x = true) (h : BestS xs k B M) (hk : xs.length ≤ k) : BestP xs 1000 B M := by
  have key : ∀ b, 1 ≤ b → sumD (pSold b) xs ≤ 0 ∨ ∃ (i : Nat) (x : R5), i < k ∧ xs[i]? = some x ∧ x.c = 2 ∧ x.e = b := fun b hb => by
    by_cases hh : ∃ x ∈ xs, pSold b x = true
    · right
      obtain ⟨x, hx, hp⟩ := hh
      obtain ⟨i, hi, rfl⟩ := List.getElem_of_mem hx
      refine ⟨i, xs[i], by omega, List.getElem?_eq_getElem hi, ?_⟩
      simp [pSold] at hp
      refine ⟨hp.1, ?_⟩
      rcases hp.2 with h | h <;> omega
    · left
      rw [sumD_none (fun x hx => by cases hq : pSold b x <;> simp; exact hh ⟨x, hx, hq⟩)]; exact Int.le_refl _
  rcases h with ⟨h1, h2, h3⟩ | ⟨h1, h2, h3, h4, h5⟩
  · refine .inl ⟨h1, h2, fun b hb1 _ => ?_⟩
    rcases key b hb1 with h | ⟨i, x, hi, hx, hc, _⟩
    · exact h
    · exact absurd hc (h3 i x hi hx)
  · refine .inr ⟨h1, h2, h3, h4, fun b hb1 _ => ?_⟩
    rcases key b hb1 with h | ⟨i, x, hi, hx, hc, he⟩
    · exact ⟨by omega, fun e => by omega⟩
    · subst he; exact h5 i x hi hx hc

set_option maxHeartbeats 1000000 in
theorem implBestBuyer_any (A : Option Addr) (n c : Nat) (xs : List R5) (w : World) (hn : xs.length = n) (hA : Rd w A (cells5 xs)) (h20 : n ≤ 1048576) :
    Calls Try.prog 19 #[.slice A n c] w (Ret (.tuple #[.int .i64 (bestV xs), .bool (decide (0 < bestV xs))]) w) := by
  cases hv : auc xs with
  | false =>
    have C1 := Lib.hid (fun w => isAuction_any A n c xs w hn)
    rw [hv] at C1
    have e := bestV_no hv
    rw [e]
    clear e hv
    go_enter Try.func19, Try.ntmps19
    go_wp2_with fail
    refine (C1.out _ hA h20).mono ?_
    rintro e w1 ⟨rfl, b1⟩
    go_wp2
    go_ret2
    exact ⟨rfl, b1⟩
  | true =>
    have C1 := Lib.hid (fun w => isAuction_any A n c xs w hn)
    rw [hv] at C1
    have HV := Lib.hid hv
    clear hv
    go_enter Try.func19, Try.ntmps19
    go_wp2_with fail
    refine (C1.out _ hA h20).mono ?_
    rintro e w1 ⟨rfl, b1⟩
    have hA1 := hA.below b1
    clear hA
    go_wp2_with fail
    go_loopw [4, 5, 6, 7, 8] (fun b m i _ _ wr => ∃ (j B M : Int), 1 ≤ j ∧ j ≤ 1000 ∧ i = .int .i64 j ∧ b = .int .i64 B ∧ m = .int .i64 M ∧ BestP xs j B M ∧ Below w1.heap.size w1 wr) (fun _ _ i _ _ _ => (1000 - intOf i).toNat)
    case atStart => exact ⟨1, 0, 0, by omega, by omega, rfl, rfl, rfl, BestP.start xs, Below.refl _ _⟩
    case round =>
      obtain ⟨j, B, M, hj1, hj2, rfl, rfl, rfl, hrel, hb⟩ := hrel
      have HR := Lib.hid hrel
      clear hrel
      by_cases hlt : j ≤ 999
      · go_wp2_with fail
        refine (lotsBought_any A n c xs j _ hn (hA1.below hb) HV.out hj1).mono ?_
        rintro e w2 ⟨v, rfl, o2, b2⟩
        clear o2
        obtain ⟨S, hS⟩ : ∃ S, S = sumD (pSold j) xs := ⟨_, rfl⟩
        rw [← hS]
        have HS := Lib.hid hS
        clear hS
        go_wp2
        · have hgt : M < S := by assumption
          go_roundw
          case rel => exact ⟨j + 1, _, _, by omega, by omega, by go_num, rfl, by rw [HS.out], HR.out.new hj1 (by rw [← HS.out]; exact hgt), hb.trans (b2.mono hb.size)⟩
          case measure => simp [intOf]; omega
        · have hle : S ≤ M := by assumption
          go_roundw
          case rel => exact ⟨j + 1, _, _, by omega, by omega, by go_num, rfl, rfl, HR.out.old hj1 (by rw [← HS.out]; exact hle), hb.trans (b2.mono hb.size)⟩
          case measure => simp [intOf]; omega
      · have hj : j = 1000 := by omega
        have HJ := Lib.hid hj
        clear hj
        go_wp2
        go_ret2
        have e := bestV_eq HV.out (HJ.out ▸ HR.out)
        exact ⟨ret_ib e (by rw [e]), b1.trans (hb.mono b1.size)⟩

set_option maxHeartbeats 1000000 in
theorem specBestBuyer_any (A : Option Addr) (n c : Nat) (xs : List R5) (w : World) (hn : xs.length = n) (hA : Rd w A (cells5 xs)) (h20 : n ≤ 1048576) :
    Calls Try.prog 18 #[.slice A n c] w (Ret (.tuple #[.int .i64 (bestV xs), .bool (decide (0 < bestV xs))]) w) := by
  cases hv : auc xs with
  | false =>
    have C1 := Lib.hid (fun w => l29Good_any A n c xs w hn)
    rw [hv] at C1
    have e := bestV_no hv
    rw [e]
    clear e hv
    go_enter Try.func18, Try.ntmps18
    go_wp2_with fail
    refine (C1.out _ hA h20).mono ?_
    rintro e w1 ⟨rfl, b1⟩
    go_wp2
    go_ret2
    exact ⟨rfl, b1⟩
  | true =>
    have C1 := Lib.hid (fun w => l29Good_any A n c xs w hn)
    rw [hv] at C1
    have HV := Lib.hid hv
    have HM := Lib.hid (auc_mem hv)
    clear hv
    go_enter Try.func18, Try.ntmps18
    go_wp2_with fail
    refine (C1.out _ hA h20).mono ?_
    rintro e w1 ⟨rfl, b1⟩
    have hA1 := hA.below b1
    clear hA
    go_wp2_with fail
    go_loopw [4, 5, 6, 7, 8] (fun b m i _ _ wr => ∃ (k : Nat) (B M : Int), k ≤ n ∧ i = .int .i64 k ∧ b = .int .i64 B ∧ m = .int .i64 M ∧ BestS xs k B M ∧ Below w1.heap.size w1 wr) (fun _ _ i _ _ _ => n - (intOf i).toNat)
    case atStart => exact ⟨0, 0, 0, by omega, rfl, rfl, rfl, .inl ⟨rfl, rfl, fun i x hi => by omega⟩, Below.refl _ _⟩
    case round =>
      obtain ⟨k, B, M, hk, rfl, rfl, rfl, hrel, hb⟩ := hrel
      have HR := Lib.hid hrel
      clear hrel
      by_cases hlt : k < n
      · obtain ⟨x, hxk⟩ : ∃ x, xs[k]? = some x := ⟨xs[k], List.getElem?_eq_getElem (by omega)⟩
        obtain ⟨g, o, hAe, hg, c0, c1, c2, c3, c4⟩ := (hA1.below hb).at5 hxk
        have hA2 := Lib.hid (hA1.below hb)
        subst hAe
        have HX := Lib.hid hxk
        clear hxk hA1
        by_cases hc : x.c = 2
        · have HC := Lib.hid hc
          clear hc
          rw [HC.out] at c2
          go_wp2_with fail
          refine (l29Sum_any _ n c xs x.e _ hn ((hA2.out).alloc _) HV.out).mono ?_
          rintro e w2 ⟨rfl, b2⟩
          obtain ⟨S, hS⟩ : ∃ S, S = sumD (pSold x.e) xs := ⟨_, rfl⟩
          rw [← hS]
          have HS := Lib.hid hS
          clear hS
          obtain ⟨bc, bf⟩ := bcell b2
          go_wp2
          · have h1 : M < S := by assumption
            go_roundw
            case rel => exact ⟨k + 1, _, _, by omega, by go_num, rfl, by rw [HS.out], HR.out.new HM.out HX.out HC.out (.inl (by rw [← HS.out]; exact h1)), (hb.alloc hb.size _).trans (b2.mono (by have := hb.size; simp; omega))⟩
            case measure => simp [intOf]; omega
          · have h1 : S = M := by assumption
            have h2 : x.e < B := by assumption
            go_roundw
            case rel => exact ⟨k + 1, _, _, by omega, by go_num, rfl, by rw [HS.out], HR.out.new HM.out HX.out HC.out (.inr ⟨by rw [← HS.out]; exact h1, h2⟩), (hb.alloc hb.size _).trans (b2.mono (by have := hb.size; simp; omega))⟩
            case measure => simp [intOf]; omega
          · have h0 : ¬ M < S := by assumption
            have h2 : B ≤ x.e := by assumption
            go_roundw
            case rel => exact ⟨k + 1, _, _, by omega, by go_num, rfl, rfl, HR.out.old HM.out HX.out HC.out (by rw [← HS.out]; omega), (hb.alloc hb.size _).trans (b2.mono (by have := hb.size; simp; omega))⟩
            case measure => simp [intOf]; omega
          · have h0 : ¬ M < S := by assumption
            have h1 : ¬ S = M := by assumption
            go_roundw
            case rel => exact ⟨k + 1, _, _, by omega, by go_num, rfl, rfl, HR.out.old HM.out HX.out HC.out (by rw [← HS.out]; omega), (hb.alloc hb.size _).trans (b2.mono (by have := hb.size; simp; omega))⟩
            case measure => simp [intOf]; omega
        · go_wp2
          go_roundw
          case rel => exact ⟨k + 1, _, _, by omega, by go_num, rfl, rfl, HR.out.skip HX.out hc, hb.alloc hb.size _⟩
          case measure => simp [intOf]; omega
      · go_wp2
        go_ret2
        have e := bestV_eq HV.out (HR.out.all HM.out (by omega))
        exact ⟨ret_ib e (by rw [e]), b1.trans (hb.mono b1.size)⟩
end Go.Proofs.Ytgjbnabfgngkjaa
