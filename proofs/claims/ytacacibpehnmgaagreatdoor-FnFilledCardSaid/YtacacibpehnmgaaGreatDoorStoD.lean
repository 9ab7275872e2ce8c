/- Stock book: the strip with an id; the rest of a strip. -/
import Derived.Test.YtacacibpehnmgaaGreatDoorStoC
namespace Go.Proofs.YtacacibpehnmgaaGreatDoor
set_option linter.unusedVariables false
set_option linter.unusedSimpArgs false
open Go.RowKit

set_option maxHeartbeats 1000000 in
theorem l27Find_any (A : Option Addr) (n c : Nat) (xs : List BR) (id : Int) (w : World) (hn : xs.length = n) (hA : RdB w A xs) (h20 : n ≤ 1048577) (hw : ∀ x ∈ xs, x.ws.length ≤ 1048577) :
    Calls Tryz.prog 50 #[.slice A n c, .int .i64 id] w (Ret (.int .i64 (findV xs id)) w) := by
  have C := Lib.hid (fun w h => l27Good_any A n c xs w hn h h20 hw)
  have HN := Lib.hid hn
  clear hn hw
  cases hv : bookB xs with
  | false =>
    rw [hv] at C
    rw [show findV xs id = -1 by simp [findV, hv]]
    clear hv
    have HA := Lib.hid hA
    clear hA
    by_cases h0 : 0 < n
    · have hd : decide (0 < n) = true := by simpa using h0
      go_enter Tryz.func50, Tryz.ntmps50
      go_wp2_with fail
      refine wp_loop_rounds 1 ?_
      rw [rounds_succ]
      go_wp2_with fail
      refine (C.out _ HA.out).mono ?_
      rintro e w1 ⟨rfl, b1⟩
      go_wp2
      go_ret
      exact ⟨rfl, b1⟩
    · have h0' : n = 0 := by omega
      subst h0'
      go_enter Tryz.func50, Tryz.ntmps50
      go_wp2_with fail
      refine wp_loop_rounds 1 ?_
      rw [rounds_succ]
      go_wp2
      go_ret
      exact ⟨rfl, Below.refl _ _⟩
  | true =>
    rw [hv] at C
    rw [show findV xs id = idxV (hasId id) xs by simp [findV, hv]]
    clear hv
    go_enter Tryz.func50, Tryz.ntmps50
    go_wp2_with fail
    go_loopw [5, 4] (fun i r wr => ∃ (k : Nat), k ≤ n ∧ i = .int .i64 k ∧ r = .int .i64 0 ∧ (∀ (j : Nat) (y : BR), j < k → xs[j]? = some y → hasId id y = false) ∧ Below w.heap.size w wr) (fun i _ _ => n - (intOf i).toNat)
    case atStart => exact ⟨0, by omega, rfl, rfl, fun j y hj => by omega, Below.refl _ _⟩
    case round =>
      obtain ⟨k, hk, rfl, rfl, hrel, hb⟩ := hrel
      have HR := Lib.hid hrel
      clear hrel
      by_cases hlt : k < n
      · have hd : decide (k < n) = true := by simpa using hlt
        obtain ⟨x, hxk⟩ : ∃ x, xs[k]? = some x := ⟨xs[k]'(by have := HN.out; omega), List.getElem?_eq_getElem _⟩
        have HX := Lib.hid hxk
        have HA := Lib.hid (hA.below hb)
        clear hxk hA
        go_wp2_with fail
        refine (C.out _ HA.out).mono ?_
        rintro e w1 ⟨rfl, b1⟩
        obtain ⟨g, o, B, cc, hAe, hg, c0, c1, -, -, -⟩ := (HA.out.below b1).at HX.out
        subst hAe
        have hb1 := hb.trans (b1.mono hb.size)
        cases hp : hasId id x with
        | true =>
          have h1 : (x.id == id) = true := hp
          have HP := Lib.hid hp
          clear hp
          go_wp2
          go_ret
          exact ⟨ret_int (idxV_hit HR.out HX.out HP.out).symm, hb1⟩
        | false =>
          have h1 : (x.id == id) = false := hp
          have HP := Lib.hid hp
          clear hp
          go_wp2
          go_roundw
          case rel =>
            refine ⟨k + 1, by omega, by go_num, rfl, fun j y hj hy => ?_, hb1⟩
            rcases Nat.lt_or_ge j k with h | h
            · exact HR.out j y h hy
            · have : j = k := by omega
              subst this; rw [HX.out] at hy; injection hy with hy; subst hy; exact HP.out
          case measure => simp [intOf]; omega
      · have hd : decide (k < n) = false := by simpa using hlt
        go_wp2
        go_ret
        exact ⟨ret_int (idxV_miss (fun j y hy => HR.out j y (by have := (List.getElem?_eq_some_iff.1 hy).1; have := HN.out; omega) hy)).symm, hb⟩

theorem okStrip_any (id0 : Int) (B : Option Addr) (m cc : Nat) (ws : List Int) (hl : ws.length = m) (id : Int) (b : Nat) (w : World) (hb : w.cell? ⟨b, 0, none⟩ = some (.int .i64 id)) :
    Calls Tryz.prog 65 #[.agg #[.int .i64 id0, .slice B m cc], .pointer (some ⟨b, 0, none⟩)] w (Ret (.bool (hasId id ⟨id0, ws⟩)) w) := by
  have hlt := World.block_lt_of_cell? w _ hb
  clear hl
  go_enter Tryz.func65, Tryz.ntmps65
  go_wp2
  go_ret
  exact ⟨ret_bool rfl, (Below.refl _ _).alloc (Nat.le_refl _) _⟩

set_option maxHeartbeats 1000000 in
theorem stripIndexFunc_any (A : Option Addr) (n c : Nat) (xs : List BR) (id : Int) (b : Nat) (w : World) (hn : xs.length = n) (hA : RdB w A xs) (h20 : n ≤ 1048577) (hb : w.cell? ⟨b, 0, none⟩ = some (.int .i64 id)) :
    Calls Tryz.prog 44 #[.slice A n c, .func (.func 65) #[] #[.pointer (some ⟨b, 0, none⟩)]] w (Ret (.int .i64 (idxV (hasId id) xs)) w) := by
  have hlt := World.block_lt_of_cell? w _ hb
  have HB := Lib.hid hb
  have HN := Lib.hid hn
  clear hb hn
  go_enter Tryz.func44, Tryz.ntmps44
  go_wp2_with fail
  go_loopw [8, 4, 5] (fun i r _ wr => ∃ (k : Nat), k ≤ n ∧ i = .int .i64 k ∧ r = .int .i64 0 ∧ (∀ (j : Nat) (y : BR), j < k → xs[j]? = some y → hasId id y = false) ∧ Below w.heap.size w wr) (fun i _ _ _ => n - (intOf i).toNat)
  case atStart => exact ⟨0, by omega, rfl, rfl, fun j y hj => by omega, Below.refl _ _⟩
  case round =>
    obtain ⟨k, hk, rfl, rfl, hrel, hb⟩ := hrel
    have HR := Lib.hid hrel
    clear hrel
    by_cases hlt : k < n
    · obtain ⟨x, hxk⟩ : ∃ x, xs[k]? = some x := ⟨xs[k]'(by have := HN.out; omega), List.getElem?_eq_getElem _⟩
      obtain ⟨g, o, B, cc, hAe, hg, c0, c1, -, -, -⟩ := (hA.below hb).at hxk
      subst hAe
      have HX := Lib.hid hxk
      clear hxk hA
      go_wp2_with fail
      refine (okStrip_any x.id B x.ws.length cc x.ws rfl id b _ ((hb.cell (p := ⟨b, 0, none⟩) (by assumption)).trans HB.out)).mono ?_
      rintro e w1 ⟨rfl, b1⟩
      have hb1 : Below w.heap.size w w1 := hb.trans (b1.mono hb.size)
      have hsame : hasId id ⟨x.id, x.ws⟩ = hasId id x := rfl
      rw [hsame]
      obtain ⟨q, hq⟩ : ∃ q, q = hasId id x := ⟨_, rfl⟩
      rw [← hq]
      have HQ := Lib.hid hq
      clear hq hsame
      cases q with
      | true =>
        go_wp2
        go_ret
        exact ⟨ret_int (idxV_hit HR.out HX.out HQ.out.symm).symm, hb1⟩
      | false =>
        go_wp2
        go_roundw
        case rel =>
          refine ⟨k + 1, by omega, by go_num, rfl, fun j y hj hy => ?_, hb1⟩
          rcases Nat.lt_or_ge j k with h | h
          · exact HR.out j y h hy
          · have : j = k := by omega
            subst this; rw [HX.out] at hy; injection hy with hy; subst hy; exact HQ.out.symm
        case measure => simp [intOf]; omega
    · go_wp2
      go_ret
      exact ⟨ret_int (idxV_miss (fun j y hy => HR.out j y (by have := (List.getElem?_eq_some_iff.1 hy).1; have := HN.out; omega) hy)).symm, hb⟩

theorem stripAt_any (A : Option Addr) (n c : Nat) (xs : List BR) (id : Int) (w : World) (hn : xs.length = n) (hA : RdB w A xs) (h20 : n ≤ 1048577) :
    Calls Tryz.prog 49 #[.slice A n c, .int .i64 id] w (Ret (.int .i64 (idxV (hasId id) xs)) w) := by
  have HA := Lib.hid hA
  clear hA
  go_enter Tryz.func49, Tryz.ntmps49
  go_wp2_with fail
  refine (stripIndexFunc_any A n c xs id w.heap.size _ hn (HA.out.alloc _) h20 (World.cell?_alloc_at _ _ _ _ rfl)).mono ?_
  rintro e w1 ⟨rfl, b1⟩
  go_wp2
  go_ret
  exact ⟨rfl, ((Below.refl _ _).alloc (Nat.le_refl _) _).trans (b1.mono (by simp))⟩

theorem hw1 {xs : List BR} (hw : ∀ x ∈ xs, x.ws.length ≤ 1048576) : ∀ x ∈ xs, x.ws.length ≤ 1048577 := fun x h => by have := hw x h; omega
/-- What the program's two tests find: the index, and whether the list is a book. -/
theorem find_ways (xs : List BR) (id : Int) : (bookB xs = false ∧ findV xs id = -1) ∨ (bookB xs = true ∧ idxV (hasId id) xs = -1 ∧ findV xs id = -1) ∨
    (bookB xs = true ∧ ∃ (k : Nat) (x : BR), findV xs id = k ∧ idxV (hasId id) xs = k ∧ k < xs.length ∧ xs[k]? = some x ∧ (1 ≤ x.id ∧ x.id ≤ 99) ∧ rowB x.ws = true) := by
  cases h : bookB xs with
  | false => exact .inl ⟨rfl, by simp [findV, h]⟩
  | true =>
    right
    rcases idxV_cases (hasId id) xs with ⟨h1, _⟩ | ⟨k, x, h1, h2, -, -⟩
    · exact .inl ⟨rfl, h1, by simp [findV, h, h1]⟩
    · have := bookB_row h h2
      exact .inr ⟨rfl, k, x, by simp [findV, h, h1], h1, (List.getElem?_eq_some_iff.1 h2).1, h2, this.1, this.2⟩


set_option maxHeartbeats 1000000 in
theorem implRestOf_any (A : Option Addr) (n c : Nat) (xs : List BR) (id : Int) (w : World) (hn : xs.length = n) (hA : RdB w A xs) (h20 : n ≤ 1048576) (hw : ∀ x ∈ xs, x.ws.length ≤ 1048576) :
    Calls Tryz.prog 22 #[.slice A n c, .int .i64 id] w (Ret (.tuple #[.int .i64 (restV xs id), .bool (decide (0 ≤ findV xs id))]) w) := by
  have C0 := Lib.hid (fun w h => stripAt_any A n c xs id w hn h (by omega))
  have C := Lib.hid (fun w h => isStockBook_any A n c xs w hn h (by omega) (hw1 hw))
  have HA := Lib.hid hA
  rcases find_ways xs id with ⟨hv, h⟩ | ⟨hv, hi, h⟩ | ⟨hv, k, x, h, hi, hk, hx, -, hrow⟩
  · rw [hv] at C
    rw [restV, h]
    obtain ⟨q, hq⟩ : ∃ q, q = idxV (hasId id) xs := ⟨_, rfl⟩
    rw [← hq] at C0
    clear hv h hn hw hA hq
    go_enter Tryz.func22, Tryz.ntmps22
    go_wp2_with fail
    refine (C0.out _ HA.out).mono ?_
    rintro e w1 ⟨rfl, b1⟩
    go_wp2_with fail
    refine (C.out _ (HA.out.below b1)).mono ?_
    rintro e w2 ⟨rfl, b2⟩
    go_wp2
    go_ret2
    exact ⟨rfl, b1.trans (b2.mono b1.size)⟩
  · rw [hv] at C
    rw [hi] at C0
    rw [restV, h]
    clear hv h hn hw hA hi
    go_enter Tryz.func22, Tryz.ntmps22
    go_wp2_with fail
    refine (C0.out _ HA.out).mono ?_
    rintro e w1 ⟨rfl, b1⟩
    go_wp2_with fail
    refine (C.out _ (HA.out.below b1)).mono ?_
    rintro e w2 ⟨rfl, b2⟩
    go_wp2
    go_ret2
    exact ⟨rfl, b1.trans (b2.mono b1.size)⟩
  · rw [hv] at C
    rw [hi] at C0
    rw [restV, h, if_neg (by omega), show decide (0 ≤ (k : Int)) = true by simp, atB_at hx]
    obtain ⟨r1, r2, r3⟩ := rowB_yes hrow
    have HX := Lib.hid hx
    have R1 := Lib.hid r1
    have hkn : k < n := by omega
    clear hv h hn hw hA hi hx r1 hrow hk r3
    go_enter Tryz.func22, Tryz.ntmps22
    go_wp2_with fail
    refine (C0.out _ HA.out).mono ?_
    rintro e w1 ⟨rfl, b1⟩
    go_wp2_with fail
    refine (C.out _ (HA.out.below b1)).mono ?_
    rintro e w2 ⟨rfl, b2⟩
    have hb2 := b1.trans (b2.mono b1.size)
    obtain ⟨g, o, B, cc, rfl, hg, c0, c1, -, -, hrd⟩ := (HA.out.below hb2).at HX.out
    have HRD := Lib.hid hrd
    clear hrd
    go_wp2_with fail
    refine (restOf_wd B x.ws.length cc x.ws _ rfl HRD.out (by omega) R1.out).mono ?_
    rintro e w3 ⟨rfl, rfl⟩
    go_wp2
    go_ret2
    exact ⟨rfl, hb2⟩
end Go.Proofs.YtacacibpehnmgaaGreatDoor
