/- The stock book: the numbers that a list holds. -/
import Derived.Test.YtfejjdplclngnaaDoorBookE
namespace Go.Proofs.YtfejjdplclngnaaDoor
set_option linter.unusedVariables false
set_option linter.unusedSimpArgs false
open Go.RowKit

/-- What is left of a size behind the inner rows. -/
def szL : Int → List BR → Int
  | l, [] => l
  | l, x :: xs => if l < x.ws.length then -1 else szL (l - x.ws.length) xs
def szBV (l : Int) (xs : List BR) : Int := if l < xs.length then -1 else szL (l - xs.length) xs
theorem szL_bound : ∀ {xs : List BR} {l : Int}, 0 ≤ szL l xs → ∀ x ∈ xs, (x.ws.length : Int) ≤ l
  | [], _, _, _, h => by cases h
  | y :: ys, l, h0, x, hx => by
    simp only [szL] at h0
    split at h0
    · omega
    · rcases List.mem_cons.1 hx with rfl | hx
      · omega
      · have := szL_bound h0 x hx; omega
theorem szL_drop {xs : List BR} {k : Nat} {x : BR} (l : Int) (hk : xs[k]? = some x) : szL l (xs.drop k) = if l < x.ws.length then -1 else szL (l - x.ws.length) (xs.drop (k + 1)) := by
  rw [List.drop_eq_getElem?_toList_append, hk]; rfl

set_option maxHeartbeats 1000000 in
theorem szBookRowS_any (A : Option Addr) (n c : Nat) (left : Int) (xs : List BR) (w : World) (hn : xs.length = n) (hA : RdB w A xs) (hm : n ≤ maxLen) (hl : 0 ≤ left) (hl2 : left ≤ 1048576) :
    Calls Tryd.prog 22 #[.slice A n c, .int .i64 left] w (Ret (.int .i64 (szBV left xs)) w) := by
  unfold maxLen at hm
  by_cases h : left < n
  · have e := Lib.hid (show szBV left xs = -1 by rw [szBV, if_pos (by rw [hn]; exact h)])
    go_enter Tryd.func22, Tryd.ntmps22
    go_wp2
    go_ret
    exact ⟨ret_int e.out.symm, Below.refl _ _⟩
  · have e := Lib.hid (show szBV left xs = szL (left - n) xs by rw [szBV, if_neg (by rw [hn]; exact h), hn])
    have hl0 : 0 ≤ left - n := by omega
    have HN := Lib.hid hn
    go_enter Tryd.func22, Tryd.ntmps22
    go_wp2_with fail
    go_loopw [1, 5] (fun q i wr => ∃ (k : Nat) (l : Int), k ≤ n ∧ i = .int .i64 k ∧ q = .int .i64 l ∧ 0 ≤ l ∧ l ≤ 1048576 ∧ szL l (xs.drop k) = szL (left - n) xs ∧ Below w.heap.size w wr) (fun _ i _ => n - (intOf i).toNat)
    case atStart => exact ⟨0, left - n, Nat.zero_le _, rfl, rfl, by omega, by omega, rfl, Below.refl _ _⟩
    case round =>
      obtain ⟨k, l, hk, rfl, rfl, hl0', hl1, hs, hb⟩ := hrel
      have HS := Lib.hid hs
      clear hs
      by_cases hlt : k < n
      · obtain ⟨x, hxk⟩ : ∃ x, xs[k]? = some x := ⟨xs[k]'(by have := HN.out; omega), List.getElem?_eq_getElem _⟩
        obtain ⟨g, o, P, cp, rfl, hg, c0, c1, hc1, hc2, -⟩ := (hA.below hb).at hxk
        have C0 := Lib.hid (fun w => szBookRow_any x.id P x.ws.length cp l (by omega) hl0' hl1 w)
        have HX := Lib.hid (szL_drop l hxk)
        clear hxk hc1 hc2
        by_cases hq : l < x.ws.length
        · rw [show szR l x.ws.length = -1 by rw [szR, if_pos hq]] at C0
          go_wp2_with fail
          refine (C0.out _).mono ?_
          rintro e1 w1 ⟨rfl, b1⟩
          go_wp2
          go_ret
          exact ⟨ret_int (by rw [e.out, ← HS.out, HX.out, if_pos hq]), hb.trans (b1.mono hb.size)⟩
        · rw [show szR l x.ws.length = l - x.ws.length by rw [szR, if_neg hq]] at C0
          have hq0 : 0 ≤ l - x.ws.length := by omega
          go_wp2_with fail
          refine (C0.out _).mono ?_
          rintro e1 w1 ⟨rfl, b1⟩
          go_wp2
          go_roundw
          case rel => exact ⟨k + 1, l - x.ws.length, by omega, by go_num, rfl, hq0, by omega, by rw [← HS.out, HX.out, if_neg (by omega)], hb.trans (b1.mono hb.size)⟩
          case measure => simp [intOf]; omega
      · go_wp2
        go_ret
        exact ⟨ret_int (by rw [e.out, ← HS.out, List.drop_eq_nil_of_le (by have := HN.out; omega)]; rfl), hb⟩
end Go.Proofs.YtfejjdplclngnaaDoor
