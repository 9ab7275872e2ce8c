/- Stock book: TightStrip, StartsOf, StampAt: the program's functions and the reference's return one value. -/
import Derived.Test.YtacacibpehnmgaaGreatDoorStoE
import Derived.IntWalk
namespace Go.Proofs.YtacacibpehnmgaaGreatDoor
set_option linter.unusedVariables false
set_option linter.unusedSimpArgs false
open Go.RowKit

def tsB (xs : List BR) (z : Int) : Bool := bookB xs && (wdB z && decide (0 ≤ tightV xs z))
def tsV (xs : List BR) (z : Int) : Int := if tsB xs z then (atB xs (tightV xs z)).id else 0
theorem ts_ways (xs : List BR) (z : Int) : (bookB xs = false ∧ tsB xs z = false) ∨ (bookB xs = true ∧ wdB z = false ∧ tsB xs z = false) ∨
    (bookB xs = true ∧ wdB z = true ∧ tightV xs z < 0 ∧ tsB xs z = false) ∨ (bookB xs = true ∧ wdB z = true ∧ ∃ (k : Nat) (x : BR), tightV xs z = k ∧ tsB xs z = true ∧ k < xs.length ∧ xs[k]? = some x ∧ tsV xs z = x.id) := by
  unfold tsV
  cases h : bookB xs with
  | false => exact .inl ⟨rfl, by simp [tsB, h]⟩
  | true =>
    right
    cases h2 : wdB z with
    | false => exact .inl ⟨rfl, rfl, by simp [tsB, h2]⟩
    | true =>
      right
      have ht := tiN_bd xs z xs.length
      rcases Int.lt_or_le (tightV xs z) 0 with h3 | h3
      · exact .inl ⟨rfl, rfl, h3, by simp [tsB]; intros; omega⟩
      · right
        obtain ⟨k, hk⟩ : ∃ k : Nat, tightV xs z = k := ⟨(tightV xs z).toNat, by omega⟩
        have hkl : k < xs.length := by unfold tightV at hk; omega
        have hb : tsB xs z = true := by simp [tsB, h, h2, h3]
        have hx : xs[k]? = some xs[k] := List.getElem?_eq_getElem hkl
        exact ⟨rfl, rfl, k, xs[k], hk, hb, hkl, hx, by rw [hb, hk, atB_at hx]; rfl⟩

set_option maxHeartbeats 2000000 in
theorem specTightStrip_any (A : Option Addr) (n c : Nat) (xs : List BR) (z : Int) (w : World) (hn : xs.length = n) (hA : RdB w A xs) (h20 : n ≤ 1048576) (hw : ∀ x ∈ xs, x.ws.length ≤ 1048576) :
    Calls Tryz.prog 21 #[.slice A n c, .int .i64 z] w (Ret (.tuple #[.int .i64 (tsV xs z), .bool (tsB xs z)]) w) := by
  have C0 := Lib.hid (fun w h => l27Good_any A n c xs w hn h (by omega) (hw1 hw))
  have C1 := Lib.hid (fun w => l27Width_any z w)
  have C2 := Lib.hid (fun w h hv => l27Tight_any A n c xs z w hn h h20 (bookB_rows hv))
  have HA := Lib.hid hA
  rcases ts_ways xs z with ⟨hv, hB⟩ | ⟨hv, hz, hB⟩ | ⟨hv, hz, ht, hB⟩ | ⟨hv, hz, k, x, ht, hB, hk, hx, hV⟩
  · rw [hv] at C0
    rw [tsV, hB]
    clear hv hB hn hw hA C2
    go_enter Tryz.func21, Tryz.ntmps21
    go_wp2_with fail
    refine (C0.out _ HA.out).mono ?_
    rintro e w1 ⟨rfl, b1⟩
    go_wp2
    go_ret2
    exact ⟨rfl, b1⟩
  · rw [hv] at C0
    rw [hz] at C1
    rw [tsV, hB]
    clear hv hz hB hn hw hA C2
    go_enter Tryz.func21, Tryz.ntmps21
    go_wp2_with fail
    refine (C0.out _ HA.out).mono ?_
    rintro e w1 ⟨rfl, b1⟩
    go_wp2_with fail
    refine (C1.out _).mono ?_
    rintro e w2 ⟨rfl, rfl⟩
    go_wp2
    go_ret2
    exact ⟨rfl, b1⟩
  · rw [hv] at C0
    rw [hz] at C1
    rw [tsV, hB]
    have C2' := Lib.hid (fun w h => C2.out w h hv)
    obtain ⟨t, htt⟩ : ∃ t, t = tightV xs z := ⟨_, rfl⟩
    rw [← htt] at C2' ht
    clear hv hz hB hn hw hA C2 htt
    go_enter Tryz.func21, Tryz.ntmps21
    go_wp2_with fail
    refine (C0.out _ HA.out).mono ?_
    rintro e w1 ⟨rfl, b1⟩
    go_wp2_with fail
    refine (C1.out _).mono ?_
    rintro e w2 ⟨rfl, rfl⟩
    go_wp2_with fail
    refine (C2'.out _ (HA.out.below b1)).mono ?_
    rintro e w3 ⟨rfl, b3⟩
    go_wp2
    go_ret2
    exact ⟨rfl, b1.trans (b3.mono b1.size)⟩
  · rw [hv] at C0
    rw [hz] at C1
    rw [hB, hV]
    have C2' := Lib.hid (fun w h => C2.out w h hv)
    rw [ht] at C2'
    have HX := Lib.hid hx
    have hkn : k < n := by omega
    clear hv hz hB hn hw hA C2 ht hx hV hk
    go_enter Tryz.func21, Tryz.ntmps21
    go_wp2_with fail
    refine (C0.out _ HA.out).mono ?_
    rintro e w1 ⟨rfl, b1⟩
    go_wp2_with fail
    refine (C1.out _).mono ?_
    rintro e w2 ⟨rfl, rfl⟩
    go_wp2_with fail
    refine (C2'.out _ (HA.out.below b1)).mono ?_
    rintro e w3 ⟨rfl, b3⟩
    have hb3 := b1.trans (b3.mono b1.size)
    obtain ⟨g, o, B, cc, rfl, hg, c0, c1, -, -, -⟩ := (HA.out.below hb3).at HX.out
    go_wp2
    go_ret2
    exact ⟨rfl, hb3⟩

set_option maxHeartbeats 2000000 in
theorem implTightStrip_any (A : Option Addr) (n c : Nat) (xs : List BR) (z : Int) (w : World) (hn : xs.length = n) (hA : RdB w A xs) (h20 : n ≤ 1048576) (hw : ∀ x ∈ xs, x.ws.length ≤ 1048576) :
    Calls Tryz.prog 20 #[.slice A n c, .int .i64 z] w (Ret (.tuple #[.int .i64 (tsV xs z), .bool (tsB xs z)]) w) := by
  have C0 := Lib.hid (fun w h => isStockBook_any A n c xs w hn h (by omega) (hw1 hw))
  have C1 := Lib.hid (fun w => isWidth_any z w)
  have C2 := Lib.hid (fun w h hv => tightStrip_any A n c xs z w hn h h20 (bookB_rows hv))
  have HA := Lib.hid hA
  rcases ts_ways xs z with ⟨hv, hB⟩ | ⟨hv, hz, hB⟩ | ⟨hv, hz, ht, hB⟩ | ⟨hv, hz, k, x, ht, hB, hk, hx, hV⟩
  · rw [hv] at C0
    rw [tsV, hB]
    clear hv hB hn hw hA C2
    go_enter Tryz.func20, Tryz.ntmps20
    go_wp2_with fail
    refine (C0.out _ HA.out).mono ?_
    rintro e w1 ⟨rfl, b1⟩
    go_wp2
    go_ret2
    exact ⟨rfl, b1⟩
  · rw [hv] at C0
    rw [hz] at C1
    rw [tsV, hB]
    clear hv hz hB hn hw hA C2
    go_enter Tryz.func20, Tryz.ntmps20
    go_wp2_with fail
    refine (C0.out _ HA.out).mono ?_
    rintro e w1 ⟨rfl, b1⟩
    go_wp2_with fail
    refine (C1.out _).mono ?_
    rintro e w2 ⟨rfl, rfl⟩
    go_wp2
    go_ret2
    exact ⟨rfl, b1⟩
  · rw [hv] at C0
    rw [hz] at C1
    rw [tsV, hB]
    have C2' := Lib.hid (fun w h => C2.out w h hv)
    obtain ⟨t, htt⟩ : ∃ t, t = tightV xs z := ⟨_, rfl⟩
    rw [← htt] at C2' ht
    clear hv hz hB hn hw hA C2 htt
    go_enter Tryz.func20, Tryz.ntmps20
    go_wp2_with fail
    refine (C0.out _ HA.out).mono ?_
    rintro e w1 ⟨rfl, b1⟩
    go_wp2_with fail
    refine (C1.out _).mono ?_
    rintro e w2 ⟨rfl, rfl⟩
    go_wp2_with fail
    refine (C2'.out _ (HA.out.below b1)).mono ?_
    rintro e w3 ⟨rfl, b3⟩
    go_wp2
    go_ret2
    exact ⟨rfl, b1.trans (b3.mono b1.size)⟩
  · rw [hv] at C0
    rw [hz] at C1
    rw [hB, hV]
    have C2' := Lib.hid (fun w h => C2.out w h hv)
    rw [ht] at C2'
    have HX := Lib.hid hx
    have hkn : k < n := by omega
    clear hv hz hB hn hw hA C2 ht hx hV hk
    go_enter Tryz.func20, Tryz.ntmps20
    go_wp2_with fail
    refine (C0.out _ HA.out).mono ?_
    rintro e w1 ⟨rfl, b1⟩
    go_wp2_with fail
    refine (C1.out _).mono ?_
    rintro e w2 ⟨rfl, rfl⟩
    go_wp2_with fail
    refine (C2'.out _ (HA.out.below b1)).mono ?_
    rintro e w3 ⟨rfl, b3⟩
    have hb3 := b1.trans (b3.mono b1.size)
    obtain ⟨g, o, B, cc, rfl, hg, c0, c1, -, -, -⟩ := (HA.out.below hb3).at HX.out
    go_wp2
    go_ret2
    exact ⟨rfl, hb3⟩

/-! ### Left sides -/


theorem st_yes {xs : List BR} {id : Int} {k : Nat} {x : BR} (h : findV xs id = k) (hx : xs[k]? = some x) : stV xs id = startsV x.ws := by
  rw [stV, h, if_neg (by omega), atB_at hx]


end Go.Proofs.YtacacibpehnmgaaGreatDoor
