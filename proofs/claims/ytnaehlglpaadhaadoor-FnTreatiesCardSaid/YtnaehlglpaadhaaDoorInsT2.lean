/- slices.Insert of one element, all ways; where an element stands in a list in order: slices.BinarySearchFunc. -/
import Derived.Test.YtnaehlglpaadhaaDoorInsTrea
import Derived.Test.YtnaehlglpaadhaaDoorTreE
namespace Go.Proofs.YtnaehlglpaadhaaDoor
set_option linter.unusedVariables false
set_option linter.unusedSimpArgs false
open Go.RowKit

theorem insTreaty_any (base n i vb : Nat) (v : Value) (cs xc : List Value) (w : World) (ho : w.ownsRow base 44 5 v n cs) (hbase : base ≤ w.heap.size) (hi : i ≤ n) (h1c : ∀ u ∈ cs, u.oneCell' = true) (hv : w.heap[vb]? = some (.cells xc.toArray 44 (0, 0))) (hx : xc.length = 5) (h1x : ∀ u ∈ xc, u.oneCell' = true) (hvg : v.ownBlock ≠ some vb) (hn : n ≤ 1048576) :
    Calls Tryd.prog 53 #[v, .int .i64 i, .slice (some ⟨vb, 0, none⟩) 1 1] w (RetIns base 44 5 (n + 1) (cs.take (i * 5) ++ (xc ++ cs.drop (i * 5))) v.ownBlock w) := by
  rcases Nat.lt_or_eq_of_le hi with hlt | rfl
  · rcases ho.2 with ⟨rfl, h0⟩ | ⟨g, cap, cur, rfl, _, _, hnc, _⟩
    · omega
    · rcases Nat.lt_or_eq_of_le hnc with h | h
      · exact insTreaty_room base n i g cap vb cs xc w ho hlt h h1c hv hx h1x (fun e => hvg (by rw [e]; rfl)) hn
      · subst h
        exact insTreaty_grow base n i g vb cs xc w ho hbase hlt h1c hv hx h1x hn
  · have h := insTreaty_end base i vb v cs xc w ho hbase hv hx h1x hn
    rw [List.take_of_length_le (by rw [ho.1]; exact Nat.le_refl _), List.drop_eq_nil_of_le (by rw [ho.1]; exact Nat.le_refl _), List.append_nil]
    exact h

/-- How many stand before it. -/
def posV (xs : List R5) (x : R5) : Nat := (xs.takeWhile (fun y => trLess y x)).length
theorem posV_eq {x : R5} : ∀ {xs : List R5} {k : Nat}, k ≤ xs.length → (∀ (j : Nat) (y : R5), j < k → xs[j]? = some y → trLess y x = true) → (∀ y, xs[k]? = some y → trLess y x = false) → posV xs x = k
  | [], k, hk, _, _ => by simp at hk; subst hk; rfl
  | y :: ys, 0, _, _, h2 => by have := h2 y rfl; simp [posV, List.takeWhile_cons, this]
  | y :: ys, k + 1, hk, h1, h2 => by
    have h0 := h1 0 y (by omega) rfl
    have := posV_eq (x := x) (xs := ys) (k := k) (by simpa using hk) (fun j z hj hz => h1 (j + 1) z (by omega) (by simpa using hz)) (fun z hz => h2 z (by simpa using hz))
    simp only [posV] at this ⊢
    rw [List.takeWhile_cons, h0]
    simp [this]
theorem posV_le (xs : List R5) (x : R5) : posV xs x ≤ xs.length := List.IsPrefix.length_le (List.takeWhile_prefix _)
theorem trLess_trans {x y z : R5} (h1 : trLess x y = true) (h2 : trLess y z = true) : trLess x z = true := by
  simp only [trLess, decide_eq_true_eq] at *; omega
theorem trL_sorted {xs : List R5} (h : trL xs = true) : ∀ {j : Nat} {i : Nat} {x y : R5}, i < j → xs[i]? = some x → xs[j]? = some y → trLess x y = true
  | 0, i, x, y, hij, _, _ => by omega
  | j + 1, i, x, y, hij, hx, hy => by
    simp only [trL, Bool.and_eq_true] at h
    have hjl : j < xs.length := by have := (List.getElem?_eq_some_iff.1 hy).1; omega
    have hb := allG_ord h.1 hy (List.getElem?_eq_getElem hjl)
    simp only [trBef, Bool.and_eq_true] at hb
    rcases Nat.lt_or_ge i j with hlt | hge
    · exact trLess_trans (trL_sorted (by simp only [trL, Bool.and_eq_true]; exact h) hlt hx (List.getElem?_eq_getElem hjl)) hb.1
    · obtain rfl : i = j := by omega
      rw [List.getElem?_eq_getElem hjl] at hx; injection hx with hx; subst hx; exact hb.1

def RetPos (i : Int) (W : World) : Ending → World → Prop := fun e w' => ∃ b, e = .returned (.tuple #[.int .i64 i, .bool b]) ∧ Below W.heap.size W w'

set_option maxRecDepth 20000 in
set_option maxHeartbeats 4000000 in
theorem binTreaty_any (A : Option Addr) (n c : Nat) (xs : List R5) (x : R5) (w : World) (hn : xs.length = n) (hA : Rd w A (cells5 xs)) (hv : trL xs = true) :
    Calls Tryd.prog 51 #[.slice A n c, .agg #[.int .i64 x.a, .int .i64 x.b, .int .i64 x.c, .int .i64 x.d, .int .i64 x.e], .func (.func 52) #[] #[]] w (RetPos (posV xs x) w) := by
  have HV := Lib.hid hv
  have h20 : n ≤ 20 := by have := trL_len hv; omega
  clear hv
  go_enter Tryd.func51, Tryd.ntmps51
  go_wp2_with fail
  go_loopw [9, 10, 11] (fun i j _ wr => ∃ (lo hi : Nat), i = .int .i64 lo ∧ j = .int .i64 hi ∧ lo ≤ hi ∧ hi ≤ n ∧ (∀ (t : Nat) (y : R5), t < lo → xs[t]? = some y → trLess y x = true) ∧ (∀ (t : Nat) (y : R5), hi ≤ t → xs[t]? = some y → trLess y x = false) ∧ Below (w.heap.size + 1) (w.alloc (.cells #[.int .i64 x.a, .int .i64 x.b, .int .i64 x.c, .int .i64 x.d, .int .i64 x.e] 44)) wr) (fun i j _ _ => (intOf j - intOf i).toNat)
  case atStart => exact ⟨0, n, rfl, rfl, by omega, by omega, fun t y ht => by omega, fun t y ht hy => (by have := (List.getElem?_eq_some_iff.1 hy).1; omega), Below.refl _ _⟩
  case round =>
    obtain ⟨lo, hi, rfl, rfl, hlh, hhn, h1, h2, hb⟩ := hrel
    have H1 := Lib.hid h1
    have H2 := Lib.hid h2
    have hs := hb.size
    simp only [World.size_alloc] at hs
    have hsl : w.heap.size < wr.heap.size := by omega
    have hbw : Below w.heap.size w wr := ((Below.refl _ _).alloc (Nat.le_refl _) _).trans (hb.mono (by omega))
    have e0 := (hb.cell (p := ⟨w.heap.size, 0, none⟩) (by simp)).trans (World.cell?_alloc_at _ _ _ _ rfl)
    have e1 := (hb.cell (p := ⟨w.heap.size, 1, none⟩) (by simp)).trans (World.cell?_alloc_at _ _ _ _ rfl)
    have e2 := (hb.cell (p := ⟨w.heap.size, 2, none⟩) (by simp)).trans (World.cell?_alloc_at _ _ _ _ rfl)
    have e3 := (hb.cell (p := ⟨w.heap.size, 3, none⟩) (by simp)).trans (World.cell?_alloc_at _ _ _ _ rfl)
    have e4 := (hb.cell (p := ⟨w.heap.size, 4, none⟩) (by simp)).trans (World.cell?_alloc_at _ _ _ _ rfl)
    clear h1 h2
    by_cases hlt : lo < hi
    · obtain ⟨y, hy⟩ : ∃ y, xs[(lo + hi) / 2]? = some y := ⟨xs[(lo + hi) / 2]'(by omega), List.getElem?_eq_getElem (by omega)⟩
      obtain ⟨g, o, hAe, hg, c0, c1, c2, c3, c4⟩ := (hA.below hbw).at5 hy
      have HY := Lib.hid hy
      have HC := Lib.hid (trCmp_less y x)
      have C1 := Lib.hid (fun w => compareTreaties_any y x w)
      obtain ⟨q, hq⟩ : ∃ q, q = trCmp y x := ⟨_, rfl⟩
      rw [← hq] at HC C1
      have hmid : (lo + hi) / 2 < n := by omega
      subst hAe
      clear hy hq
      go_wp2_with fail
      refine wp_region_lat wr.heap.size (by kernel_rfl) (by kernel_rfl) ?_
      have LC := fun (u : Lat wr.heap.size wr) => u.cell
      repeat (go_big_quiet_step ((go_at_call 52; (with_reducible exact lat_call _ (Nat.le_refl _) (C1.out _)))))
      refine wpQuiet_nil ?_
      intro w1 b1
      have HB1 := Lib.hid (hb.trans (b1.mono (by omega)))
      clear LC c0 c1 c2 c3 c4 e0 e1 e2 e3 e4
      by_cases hq : q < 0
      · have hqd : decide (q < 0) = true := by simp [hq]
        have HL := Lib.hid (show trLess y x = true by have := HC.out; rw [show decide (0 ≤ q) = false by simp; omega] at this; simpa using this)
        go_wp2
        go_roundw
        case rel =>
          refine ⟨(lo + hi) / 2 + 1, hi, by rw [show ((lo : Int) + (hi : Int)) / 2 + 1 = (((lo + hi) / 2 + 1 : Nat) : Int) by omega], rfl, by omega, hhn, fun t z ht hz => ?_, H2.out, HB1.out⟩
          rcases Nat.lt_or_eq_of_le (show t ≤ (lo + hi) / 2 by omega) with h | h
          · exact trLess_trans (trL_sorted HV.out h hz HY.out) HL.out
          · subst h; rw [HY.out] at hz; injection hz with hz; subst hz; exact HL.out
        case measure => simp [intOf]; omega
      · have hqd : decide (q < 0) = false := by simp; omega
        have HL := Lib.hid (show trLess y x = false by have := HC.out; rw [show decide (0 ≤ q) = true by simp; omega] at this; simpa using this)
        go_wp2
        go_roundw
        case rel =>
          refine ⟨lo, (lo + hi) / 2, rfl, by rw [show ((lo : Int) + (hi : Int)) / 2 = (((lo + hi) / 2 : Nat) : Int) by omega], by omega, by omega, H1.out, fun t z ht hz => ?_, HB1.out⟩
          cases hc : trLess z x with
          | false => rfl
          | true =>
            rcases Nat.lt_or_eq_of_le ht with h | h
            · have := trLess_trans (trL_sorted HV.out h HY.out hz) hc
              rw [HL.out] at this; exact this.symm
            · subst h; rw [HY.out] at hz; injection hz with hz; subst hz; rw [HL.out] at hc; exact hc.symm
        case measure => simp [intOf]; omega
    · obtain rfl : hi = lo := by omega
      have HP := Lib.hid (posV_eq (x := x) (xs := xs) (k := hi) (by omega) H1.out (fun y hy => H2.out hi y (Nat.le_refl _) hy))
      by_cases hin : hi < n
      · have hd : decide (hi < n) = true := by simp [hin]
        obtain ⟨y, hy⟩ : ∃ y, xs[hi]? = some y := ⟨xs[hi], List.getElem?_eq_getElem (by omega)⟩
        obtain ⟨g, o, hAe, hg, c0, c1, c2, c3, c4⟩ := (hA.below hbw).at5 hy
        have C1 := Lib.hid (fun w => compareTreaties_any y x w)
        obtain ⟨q, hq⟩ : ∃ q, q = trCmp y x := ⟨_, rfl⟩
        rw [← hq] at C1
        subst hAe
        clear hy hq
        go_wp2_with fail
        refine wp_region_lat wr.heap.size (by kernel_rfl) (by kernel_rfl) ?_
        have LC := fun (u : Lat wr.heap.size wr) => u.cell
        repeat (go_big_quiet_step ((go_at_call 52; (with_reducible exact lat_call _ (Nat.le_refl _) (C1.out _)))))
        refine wpQuiet_nil ?_
        intro w1 b1
        clear LC
        go_wp2
        go_ret2
        exact ⟨q == 0, by rw [HP.out]; rfl, hbw.trans (b1.mono hbw.size)⟩
      · have hd : decide (hi < n) = false := by simp; omega
        go_wp2_with fail
        refine wp_region_lat wr.heap.size (by kernel_rfl) (by kernel_rfl) ?_
        have LC := fun (u : Lat wr.heap.size wr) => u.cell
        repeat (go_big_quiet_step (fail))
        refine wpQuiet_nil ?_
        intro w1 b1
        clear LC
        go_wp2
        go_ret2
        exact ⟨false, by rw [HP.out]; rfl, hbw.trans (b1.mono hbw.size)⟩
end Go.Proofs.YtnaehlglpaadhaaDoor
