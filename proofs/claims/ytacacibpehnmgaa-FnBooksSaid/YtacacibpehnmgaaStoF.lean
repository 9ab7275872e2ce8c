/- Stock book: TightStrip, StartsOf, StampAt: the program's functions and the reference's return one value. -/
import Derived.Test.YtacacibpehnmgaaStoE
import Derived.IntWalk
namespace Go.Proofs.Ytacacibpehnmgaa
set_option linter.unusedVariables false
set_option linter.unusedSimpArgs false
open Go.RowKit

def tsB (xs : List BR) (z : Int) : Bool := bookB xs && (wdB z && decide (0 ≤ tightV xs z))
def tsV (xs : List BR) (z : Int) : Int := if tsB xs z then (atB xs (tightV xs z)).id else 0

/-! ### Left sides -/
set_option maxHeartbeats 1000000 in
theorem l27Starts_any (A : Option Addr) (n c : Nat) (ws : List Int) (w : World) (hn : ws.length = n) (hA : Rd w A (cells1 ws)) (h12 : n ≤ 12) (hw : ∀ v ∈ ws, wdB v = true) :
    Calls Try.prog 42 #[.slice A n c] w (RetOwn 3 1 n (cells1 (startsV ws)) w) := by
  have HN := Lib.hid hn
  have HW := Lib.hid hw
  clear hn hw
  go_enter Try.func42, Try.ntmps42
  go_wp2_with fail
  go_loopw [3, 4, 5] (fun v s i wr => ∃ k : Nat, k ≤ n ∧ i = .int .i64 k ∧ s = .int .i64 ((ws.take k).sum + 2 * (k : Int)) ∧ wr.ownsRow w.heap.size 3 1 v k (cells1 ((startsV ws).take k)) ∧ Below w.heap.size w wr) (fun _ _ i _ => n - (intOf i).toNat)
  case atStart => exact ⟨0, Nat.zero_le _, rfl, by simp, by simpa [cells1] using own_empty w w.heap.size 3 1 (Nat.le_refl _), (Below.refl _ _).alloc (Nat.le_refl _) _⟩
  case round =>
    obtain ⟨k, hk, rfl, rfl, ho, hb⟩ := hrel
    by_cases hlt : k < n
    · obtain ⟨x, hxk⟩ : ∃ x, ws[k]? = some x := ⟨ws[k]'(by have := HN.out; omega), List.getElem?_eq_getElem _⟩
      obtain ⟨g, o, rfl, hg, c0⟩ := hA.at1 hxk
      have hx := wdB_bd.1 (HW.out x (List.mem_of_getElem? hxk))
      have hS := sum_take_bd HW.out (by have := HN.out; omega) k (by have := HN.out; omega)
      have HS := Lib.hid (sum_take1 hxk)
      have HT := Lib.hid (startsV_take (ws := ws) (k := k) (by have := HN.out; omega))
      obtain ⟨S, hSS⟩ : ∃ S, S = (ws.take k).sum := ⟨_, rfl⟩
      rw [← hSS] at hS HS HT ⊢
      have HO1 := Lib.hid (fun q => own_below ho ((Below.refl _ _).alloc (Nat.le_refl _) q))
      have hs := hb.size
      clear hSS hA hxk ho
      go_wp2_with (at_builtin; go_must (refine wpList_app _ rfl (.tmp 13) (.tmp 15) 36 rfl w.heap.size 3 _ 1 8 Try.underlying36 infoI rfl (by omega) _ _ _ rfl (HO1.out _) _ 1 1 [.int .i64 (S + 2 * (k : Int))] rfl rfl (rd_new #[.int .i64 (S + 2 * (k : Int))] 3 (by simp)) (oneCell_ints [S + 2 * (k : Int)]) (by unfold maxLen; omega) (by omega) (by simp; omega) ?_); intro v' w' o' g' d'; have hb' := (hb.alloc hs _).trans (below_app (HO1.out _) g' (by simp; omega) (Nat.le_refl _)); have c1 := (hb'.cell (p := ⟨g, o + k, none⟩) hg).trans c0; clear g' d')
      have HO := Lib.hid o'
      clear o' c1
      go_roundw
      case rel => exact ⟨k + 1, by omega, by go_num, by rw [HS.out]; congr 1; omega, by rw [HT.out, cells1_append]; exact HO.out, hb'⟩
      case measure => simp [intOf]; omega
    · have HO := Lib.hid ho
      clear ho
      go_wp2
      go_ret
      refine ⟨_, rfl, ?_, hb⟩
      have h1 := HO.out
      rw [List.take_of_length_le (by rw [startsV_len, HN.out]; omega), show k = n by omega] at h1
      exact h1

set_option maxHeartbeats 1000000 in
theorem startsOf_any (A : Option Addr) (n c : Nat) (ws : List Int) (w : World) (hn : ws.length = n) (hA : Rd w A (cells1 ws)) (h12 : n ≤ 12) (hw : ∀ v ∈ ws, wdB v = true) :
    Calls Try.prog 41 #[.slice A n c] w (RetOwn 3 1 n (cells1 (startsV ws)) w) := by
  have HN := Lib.hid hn
  have HW := Lib.hid hw
  clear hn hw
  go_enter Try.func41, Try.ntmps41
  go_wp2_with fail
  go_loopw [3, 4, 9, 6] (fun v s i _ wr => ∃ k : Nat, k ≤ n ∧ i = .int .i64 k ∧ s = .int .i64 ((ws.take k).sum + 2 * (k : Int)) ∧ wr.ownsRow w.heap.size 3 1 v k (cells1 ((startsV ws).take k)) ∧ Below w.heap.size w wr) (fun _ _ i _ _ => n - (intOf i).toNat)
  case atStart => exact ⟨0, Nat.zero_le _, rfl, by simp, World.ownsRow_nil _ _ _ _, Below.refl _ _⟩
  case round =>
    obtain ⟨k, hk, rfl, rfl, ho, hb⟩ := hrel
    by_cases hlt : k < n
    · obtain ⟨x, hxk⟩ : ∃ x, ws[k]? = some x := ⟨ws[k]'(by have := HN.out; omega), List.getElem?_eq_getElem _⟩
      obtain ⟨g, o, rfl, hg, c0⟩ := (hA.below hb).at1 hxk
      have hx := wdB_bd.1 (HW.out x (List.mem_of_getElem? hxk))
      have hS := sum_take_bd HW.out (by have := HN.out; omega) k (by have := HN.out; omega)
      have HS := Lib.hid (sum_take1 hxk)
      have HT := Lib.hid (startsV_take (ws := ws) (k := k) (by have := HN.out; omega))
      obtain ⟨S, hSS⟩ : ∃ S, S = (ws.take k).sum := ⟨_, rfl⟩
      rw [← hSS] at hS HS HT ⊢
      have HO1 := Lib.hid (fun q => own_below ho ((Below.refl _ _).alloc (Nat.le_refl _) q))
      have hs := hb.size
      clear hSS hA hxk ho
      go_wp2_with (at_builtin; go_must (refine wpList_app _ rfl (.tmp 13) (.tmp 15) 36 rfl w.heap.size 3 _ 1 8 Try.underlying36 infoI rfl (by omega) _ _ _ rfl (HO1.out _) _ 1 1 [.int .i64 (S + 2 * (k : Int))] rfl rfl (rd_new #[.int .i64 (S + 2 * (k : Int))] 3 (by simp)) (oneCell_ints [S + 2 * (k : Int)]) (by unfold maxLen; omega) (by omega) (by simp; omega) ?_); intro v' w' o' g' d'; have hb' := (hb.alloc hs _).trans (below_app (HO1.out _) g' (by simp; omega) (Nat.le_refl _)); clear g' d')
      have HO := Lib.hid o'
      clear o'
      go_roundw
      case rel => exact ⟨k + 1, by omega, by go_num, by rw [HS.out]; congr 1; omega, by rw [HT.out, cells1_append]; exact HO.out, hb'⟩
      case measure => simp [intOf]; omega
    · have HO := Lib.hid ho
      clear ho
      go_wp2
      go_ret
      refine ⟨_, rfl, ?_, hb⟩
      have h1 := HO.out
      rw [List.take_of_length_le (by rw [startsV_len, HN.out]; omega), show k = n by omega] at h1
      exact h1

theorem st_yes {xs : List BR} {id : Int} {k : Nat} {x : BR} (h : findV xs id = k) (hx : xs[k]? = some x) : stV xs id = startsV x.ws := by
  rw [stV, h, if_neg (by omega), atB_at hx]

set_option maxHeartbeats 1000000 in
theorem specStartsOf_any (A : Option Addr) (n c : Nat) (xs : List BR) (id : Int) (w : World) (hn : xs.length = n) (hA : RdB w A xs) (h20 : n ≤ 1048576) (hw : ∀ x ∈ xs, x.ws.length ≤ 1048576) :
    Calls Try.prog 13 #[.slice A n c, .int .i64 id] w (RetOwnB 3 1 (stV xs id).length (cells1 (stV xs id)) (decide (0 ≤ findV xs id)) w) := by
  have C := Lib.hid (fun w h => l27Find_any A n c xs id w hn h (by omega) (hw1 hw))
  have HA := Lib.hid hA
  rcases findV_cases xs id with h | ⟨-, k, x, h, -, hk, hx, -, hrow⟩
  · rw [h] at C
    rw [show stV xs id = [] by simp [stV, h], h]
    clear h hn hw hA
    go_enter Try.func13, Try.ntmps13
    go_wp2_with fail
    refine (C.out _ HA.out).mono ?_
    rintro e w1 ⟨rfl, b1⟩
    have hs := b1.size
    go_wp2
    go_ret2
    exact ⟨.slice (some ⟨w1.heap.size, 0, none⟩) 0 0, rfl, own_empty w1 w.heap.size 3 1 hs, b1.alloc hs _⟩
  · rw [h] at C
    have HSV := Lib.hid (st_yes h hx)
    rw [HSV.out, startsV_len, h, show decide (0 ≤ (k : Int)) = true by simp]
    obtain ⟨r1, r2, r3⟩ := rowB_yes hrow
    have HX := Lib.hid hx
    have R1 := Lib.hid r1
    have hkn : k < n := by omega
    clear h hn hw hA hx r1 hrow hk
    go_enter Try.func13, Try.ntmps13
    go_wp2_with fail
    refine (C.out _ HA.out).mono ?_
    rintro e w1 ⟨rfl, b1⟩
    obtain ⟨g, o, B, cc, rfl, hg, c0, c1, -, -, hrd⟩ := (HA.out.below b1).at HX.out
    have HRD := Lib.hid hrd
    clear hrd
    go_wp2_with fail
    refine (l27Starts_any B x.ws.length cc x.ws _ rfl HRD.out (by omega) R1.out).mono ?_
    rintro e w2 ⟨v, rfl, o2, b2⟩
    have HO := Lib.hid (own_mono o2 b1.size)
    clear o2
    go_wp2
    go_ret2
    exact ⟨v, rfl, HO.out, b1.trans (b2.mono b1.size)⟩

set_option maxHeartbeats 1000000 in
theorem implStartsOf_any (A : Option Addr) (n c : Nat) (xs : List BR) (id : Int) (w : World) (hn : xs.length = n) (hA : RdB w A xs) (h20 : n ≤ 1048576) (hw : ∀ x ∈ xs, x.ws.length ≤ 1048576) :
    Calls Try.prog 12 #[.slice A n c, .int .i64 id] w (RetOwnB 3 1 (stV xs id).length (cells1 (stV xs id)) (decide (0 ≤ findV xs id)) w) := by
  have C0 := Lib.hid (fun w h => stripAt_any A n c xs id w hn h (by omega))
  have C := Lib.hid (fun w h => isStockBook_any A n c xs w hn h (by omega) (hw1 hw))
  have HA := Lib.hid hA
  rcases find_ways xs id with ⟨hv, h⟩ | ⟨hv, hi, h⟩ | ⟨hv, k, x, h, hi, hk, hx, -, hrow⟩
  · rw [hv] at C
    rw [show stV xs id = [] by simp [stV, h], h]
    obtain ⟨q, hq⟩ : ∃ q, q = idxV (hasId id) xs := ⟨_, rfl⟩
    rw [← hq] at C0
    clear hv h hn hw hA hq
    go_enter Try.func12, Try.ntmps12
    go_wp2_with fail
    refine (C0.out _ HA.out).mono ?_
    rintro e w1 ⟨rfl, b1⟩
    go_wp2_with fail
    refine (C.out _ (HA.out.below b1)).mono ?_
    rintro e w2 ⟨rfl, b2⟩
    go_wp2
    go_ret2
    exact ⟨.slice none 0 0, rfl, World.ownsRow_nil _ _ _ _, b1.trans (b2.mono b1.size)⟩
  · rw [hv] at C
    rw [hi] at C0
    rw [show stV xs id = [] by simp [stV, h], h]
    clear hv h hn hw hA hi
    go_enter Try.func12, Try.ntmps12
    go_wp2_with fail
    refine (C0.out _ HA.out).mono ?_
    rintro e w1 ⟨rfl, b1⟩
    go_wp2_with fail
    refine (C.out _ (HA.out.below b1)).mono ?_
    rintro e w2 ⟨rfl, b2⟩
    go_wp2
    go_ret2
    exact ⟨.slice none 0 0, rfl, World.ownsRow_nil _ _ _ _, b1.trans (b2.mono b1.size)⟩
  · rw [hv] at C
    rw [hi] at C0
    have HSV := Lib.hid (st_yes h hx)
    rw [HSV.out, startsV_len, h, show decide (0 ≤ (k : Int)) = true by simp]
    obtain ⟨r1, r2, r3⟩ := rowB_yes hrow
    have HX := Lib.hid hx
    have R1 := Lib.hid r1
    have hkn : k < n := by omega
    clear hv h hn hw hA hi hx r1 hrow hk r3
    go_enter Try.func12, Try.ntmps12
    go_wp2_with fail
    refine (C0.out _ HA.out).mono ?_
    rintro e w1 ⟨rfl, b1⟩
    go_wp2_with fail
    refine (C.out _ (HA.out.below b1)).mono ?_
    rintro e w2 ⟨rfl, b2⟩
    have hb2 := b1.trans (b2.mono b1.size)
    obtain ⟨g, o, B, cc, rfl, hg, c0, c1, -, -, hrd⟩ := (HA.out.below hb2).at HX.out
    have HRD := Lib.hid hrd
    clear hrd
    go_wp2_with fail
    refine (startsOf_any B x.ws.length cc x.ws _ rfl HRD.out (by omega) R1.out).mono ?_
    rintro e w3 ⟨v, rfl, o3, b3⟩
    have HO := Lib.hid (own_mono o3 hb2.size)
    clear o3
    go_wp2
    go_ret2
    exact ⟨v, rfl, HO.out, hb2.trans (b3.mono hb2.size)⟩
end Go.Proofs.Ytacacibpehnmgaa
