/- The first gap in the cover of an item: the program's search and the reference's find the same day. -/
import Derived.Test.YtiafiehglfmjaaaDoorInsD
namespace Go.Proofs.YtiafiehglfmjaaaDoor
set_option linter.unusedVariables false
set_option linter.unusedSimpArgs false
open Go.RowKit

/-- The first of the next k days, from a day on, without cover. -/
def gapFrom (xs : List R5) (item : Int) : Nat → Int → Int × Bool
  | 0, _ => (0, false)
  | k + 1, d => if cov xs item d = 0 then (d, true) else gapFrom xs item k (d + 1)
def gapB (xs : List R5) (item : Int) : Bool := insL xs && inR item 1 999
def isItemOf (item : Int) (x : R5) : Bool := x.a == item
/-- Of the insurances from the k-th on: the gap behind the beginning of the first one of the item. -/
def gapL (xs : List R5) (item : Int) : List R5 → Int × Bool
  | [] => (0, false)
  | x :: ys => if x.a = item then gapFrom xs item (4001 - x.b).toNat x.b else gapL xs item ys
def gapV (xs : List R5) (item : Int) : Int × Bool := if gapB xs item then gapL xs item xs else (0, false)
theorem gapV_no {xs : List R5} {item : Int} (h : gapB xs item = false) : gapV xs item = (0, false) := by rw [gapV, h]; rfl
theorem gapL_hit {xs : List R5} {item : Int} : ∀ {ys : List R5} {k : Nat} {x : R5}, (∀ (j : Nat) (y : R5), j < k → ys[j]? = some y → isItemOf item y = false) → ys[k]? = some x → isItemOf item x = true → gapL xs item ys = gapFrom xs item (4001 - x.b).toNat x.b
  | [], k, x, _, hx, _ => by simp at hx
  | y :: ys, 0, x, _, hx, hp => by
    simp at hx; subst hx
    rw [gapL, if_pos (by simpa [isItemOf] using hp)]
  | y :: ys, k + 1, x, h, hx, hp => by
    have h0 := h 0 y (by omega) rfl
    rw [gapL, if_neg (by simpa [isItemOf] using h0)]
    exact gapL_hit (k := k) (fun j z hj hz => h (j + 1) z (by omega) (by simpa using hz)) (by simpa using hx) hp
theorem gapL_miss {xs : List R5} {item : Int} : ∀ {ys : List R5}, (∀ y ∈ ys, isItemOf item y = false) → gapL xs item ys = (0, false)
  | [], _ => rfl
  | y :: ys, h => by
    rw [gapL, if_neg (by simpa [isItemOf] using h y (List.mem_cons_self ..))]
    exact gapL_miss fun z hz => h z (List.mem_cons_of_mem _ hz)
theorem gapFrom_yes {xs : List R5} {item d : Int} (h : cov xs item d = 0) (hd : d ≤ 4000) : gapFrom xs item (4001 - d).toNat d = (d, true) := by
  rw [show (4001 - d).toNat = (4001 - (d + 1)).toNat + 1 by omega, gapFrom, if_pos h]
theorem gapFrom_no {xs : List R5} {item d : Int} (h : cov xs item d ≠ 0) (hd : d ≤ 4000) : gapFrom xs item (4001 - d).toNat d = gapFrom xs item (4001 - (d + 1)).toNat (d + 1) := by
  rw [show (4001 - d).toNat = (4001 - (d + 1)).toNat + 1 by omega, gapFrom, if_neg h]
theorem gapFrom_end {xs : List R5} {item d : Int} (hd : 4000 < d) : gapFrom xs item (4001 - d).toNat d = (0, false) := by
  rw [show (4001 - d).toNat = 0 by omega, gapFrom]
theorem ret_gap {k : IntKind} {a : Int} {b : Bool} {q : Int × Bool} (h : q = (a, b)) : Ending.returned (.tuple #[.int k a, .bool b]) = .returned (.tuple #[.int k q.1, .bool q.2]) := by rw [h]

theorem okGap_any (x : R5) (item : Int) (b : Nat) (w : World) (hb : w.cell? ⟨b, 0, none⟩ = some (.int .i64 item)) :
    Calls Tryd.prog 26 #[.agg #[.int .i64 x.a, .int .i64 x.b, .int .i64 x.c, .int .i64 x.d, .int .i64 x.e], .pointer (some ⟨b, 0, none⟩)] w (Ret (.bool (isItemOf item x)) w) := by
  have hlt := World.block_lt_of_cell? w _ hb
  go_enter Tryd.func26, Tryd.ntmps26
  go_wp2
  go_ret
  exact ⟨ret_bool rfl, (Below.refl _ _).alloc (Nat.le_refl _) _⟩

set_option maxHeartbeats 1000000 in
theorem gapIndexFunc_any (A : Option Addr) (n c : Nat) (xs : List R5) (item : Int) (b : Nat) (w : World) (hn : xs.length = n) (hA : Rd w A (cells5 xs)) (h20 : n ≤ 1048576) (hb : w.cell? ⟨b, 0, none⟩ = some (.int .i64 item)) :
    Calls Tryd.prog 25 #[.slice A n c, .func (.func 26) #[] #[.pointer (some ⟨b, 0, none⟩)]] w (Ret (.int .i64 (idxV (isItemOf item) xs)) w) := by
  have hlt := World.block_lt_of_cell? w _ hb
  have HB := Lib.hid hb
  clear hb
  go_enter Tryd.func25, Tryd.ntmps25
  go_wp2_with fail
  go_loopw [8, 4, 5] (fun i r _ wr => ∃ (k : Nat), k ≤ n ∧ i = .int .i64 k ∧ r = .int .i64 0 ∧ (∀ (j : Nat) (y : R5), j < k → xs[j]? = some y → isItemOf item y = false) ∧ Below w.heap.size w wr) (fun i _ _ _ => n - (intOf i).toNat)
  case atStart => exact ⟨0, by omega, rfl, rfl, fun j y hj => by omega, Below.refl _ _⟩
  case round =>
    obtain ⟨k, hk, rfl, rfl, hrel, hb⟩ := hrel
    have HR := Lib.hid hrel
    clear hrel
    by_cases hlt : k < n
    · obtain ⟨x, hxk⟩ : ∃ x, xs[k]? = some x := ⟨xs[k], List.getElem?_eq_getElem (by omega)⟩
      obtain ⟨g, o, hAe, hg, c0, c1, c2, c3, c4⟩ := (hA.below hb).at5 hxk
      subst hAe
      have HX := Lib.hid hxk
      clear hxk hA
      go_wp2_with fail
      refine (okGap_any x item b _ ((hb.cell (p := ⟨b, 0, none⟩) (by assumption)).trans HB.out)).mono ?_
      rintro e w1 ⟨rfl, b1⟩
      have hb1 : Below w.heap.size w w1 := hb.trans (b1.mono hb.size)
      obtain ⟨q, hq⟩ : ∃ q, q = isItemOf item x := ⟨_, rfl⟩
      rw [← hq]
      have HQ := Lib.hid hq
      clear hq
      cases q with
      | true =>
        go_wp2
        go_ret
        exact ⟨ret_int (idxV_hit HR.out HX.out HQ.out.symm).symm, hb1⟩
      | false =>
        go_wp2
        go_roundw
        case rel =>
          refine ⟨k + 1, by omega, by go_num, rfl, fun j y hj hy => ?_, hb1⟩
          rcases Nat.lt_or_ge j k with h | h
          · exact HR.out j y h hy
          · have : j = k := by omega
            subst this; rw [HX.out] at hy; injection hy with hy; subst hy; exact HQ.out.symm
        case measure => simp [intOf]; omega
    · go_wp2
      go_ret
      exact ⟨ret_int (idxV_miss (fun j y hy => HR.out j y (by have := (List.getElem?_eq_some_iff.1 hy).1; omega) hy)).symm, hb⟩

set_option maxHeartbeats 2000000 in
theorem implFirstGap_any (A : Option Addr) (n c : Nat) (xs : List R5) (item : Int) (w : World) (hn : xs.length = n) (hA : Rd w A (cells5 xs)) (h20 : n ≤ 1048576) :
    Calls Tryd.prog 6 #[.slice A n c, .int .i64 item] w (Ret (.tuple #[.int .i64 (gapV xs item).1, .bool (gapV xs item).2]) w) := by
  cases hB : gapB xs item with
  | false =>
    rw [gapV_no hB]
    go_enter Tryd.func6, Tryd.ntmps6
    go_wp2_with fail
    refine (areInsured_any A n c xs _ hn (hA.alloc _) h20).mono ?_
    rintro e w1 ⟨rfl, b1⟩
    obtain ⟨bc, bf⟩ := bcell b1
    go_wp2_with (first
      | (go_at_call 24; refine (isItem_any _ _).mono ?_; rintro e w' ⟨rfl, rfl⟩)
      | fail)
    any_goals (go_ret2; exact ⟨rfl, ((Below.refl _ _).alloc (Nat.le_refl _) _).trans (b1.mono (by simp))⟩)
    all_goals (exfalso; go_light; grind [gapB])
  | true =>
    have hB' := hB
    simp only [gapB, Bool.and_eq_true] at hB'
    obtain ⟨hv, hi⟩ := hB'
    have hV : gapV xs item = gapL xs item xs := by rw [gapV, if_pos hB]
    rw [hV]
    have HV := Lib.hid hv
    have C0 := Lib.hid (fun w h => areInsured_any A n c xs w hn h h20)
    have C1 := Lib.hid (fun w => isItem_any item w)
    rw [hv] at C0
    rw [hi] at C1
    have HB := Lib.hid (fun x h => insB_bd (insL_mem hv (x := x) h))
    clear hv hi hV hB
    go_enter Tryd.func6, Tryd.ntmps6
    go_wp2_with fail
    refine (C0.out _ (hA.alloc _)).mono ?_
    rintro e w1 ⟨rfl, b1⟩
    obtain ⟨bc, bf⟩ := bcell b1
    go_wp2_with fail
    refine (C1.out _).mono ?_
    rintro e w' ⟨rfl, rfl⟩
    have hb1 : Below w.heap.size w w1 := ((Below.refl _ _).alloc (Nat.le_refl _) _).trans (b1.mono (by simp))
    have hs1 := b1.size
    simp only [World.size_alloc] at hs1
    have hbox : w1.cell? ⟨w.heap.size, 0, none⟩ = some (.int .i64 item) := by rw [bc _ _ (by simp)]; exact World.cell?_alloc_at _ _ _ _ rfl
    have HBOX := Lib.hid hbox
    go_wp2_with fail
    refine (gapIndexFunc_any A n c xs item w.heap.size _ hn (hA.below hb1) h20 hbox).mono ?_
    rintro e w2 ⟨rfl, b2⟩
    have hb2 := hb1.trans (b2.mono hb1.size)
    have hbox2 := ((b2.cell (p := ⟨w.heap.size, 0, none⟩) (by simp; omega)).trans HBOX.out)
    clear bc bf hbox
    rcases idxV_cases (isItemOf item) xs with ⟨hx, hno⟩ | ⟨k, x, hx, hk, hp, hbef⟩
    · rw [hx]
      have HL := Lib.hid (gapL_miss (xs := xs) hno)
      clear hx hno
      go_wp2
      go_ret2
      exact ⟨ret_gap HL.out, hb2⟩
    · rw [hx]
      have HL := Lib.hid (gapL_hit (xs := xs) hbef hk hp)
      have hkn : k < n := by have := (List.getElem?_eq_some_iff.1 hk).1; omega
      have HXB := HB.out x (List.mem_of_getElem? hk)
      obtain ⟨-, ⟨x1, x2⟩, -⟩ := HXB
      have hpos : cov xs item x.b ≠ 0 := by
        have := cov_from HV.out (List.mem_of_getElem? hk) (item := item) (by simpa [isItemOf] using hp)
        omega
      have HG := Lib.hid (HL.out.trans (gapFrom_no hpos (by omega)))
      obtain ⟨g, o, hAe, hg, c0, c1, c2, c3, c4⟩ := (hA.below hb2).at5 hk
      have HA2 := Lib.hid (hA.below hb2)
      subst hAe
      clear hx hk hp hbef hpos hA
      go_wp2_with fail
      go_loopw [7] (fun d wr => ∃ (j : Int), x.b + 1 ≤ j ∧ j ≤ 4001 ∧ d = .int .i64 j ∧ gapL xs item xs = gapFrom xs item (4001 - j).toNat j ∧ Below w2.heap.size w2 wr) (fun d _ => (4001 - intOf d).toNat)
      case atStart => exact ⟨x.b + 1, by omega, by omega, by go_num, HG.out, Below.refl _ _⟩
      case round =>
        obtain ⟨j, hj1, hj2, rfl, hrel, hb⟩ := hrel
        have HR := Lib.hid hrel
        have hbx := ((hb.cell (p := ⟨w.heap.size, 0, none⟩) (by have := b2.size; simp; omega)).trans hbox2)
        clear hrel c0 c1 c2 c3 c4 hbox2
        by_cases hlt : j ≤ 4000
        · go_wp2_with fail
          refine (coverOn_any _ n c xs item j _ hn (HA2.out.below hb) HV.out).mono ?_
          rintro e w3 ⟨rfl, b3⟩
          obtain ⟨q, hq⟩ : ∃ q, q = cov xs item j := ⟨_, rfl⟩
          rw [← hq]
          have HQ := Lib.hid hq
          clear hq
          by_cases hz : q = 0
          · have h1 : (q == 0) = true := by simp [hz]
            have HZ := Lib.hid hz
            clear hz
            go_wp2
            go_ret2
            exact ⟨ret_gap (HR.out.trans (gapFrom_yes (by rw [← HQ.out]; exact HZ.out) hlt)), hb2.trans ((hb.trans (b3.mono hb.size)).mono hb2.size)⟩
          · have h1 : (q == 0) = false := by simp [hz]
            go_wp2
            go_roundw
            case rel => exact ⟨j + 1, by omega, by omega, by go_num, HR.out.trans (gapFrom_no (by rw [← HQ.out]; exact hz) hlt), hb.trans (b3.mono hb.size)⟩
            case measure => simp [intOf]; omega
        · go_wp2
          go_ret2
          exact ⟨ret_gap (HR.out.trans (gapFrom_end (by omega))), hb2.trans (hb.mono hb2.size)⟩

set_option maxHeartbeats 2000000 in
theorem specFirstGap_any (A : Option Addr) (n c : Nat) (xs : List R5) (item : Int) (w : World) (hn : xs.length = n) (hA : Rd w A (cells5 xs)) (h20 : n ≤ 1048576) :
    Calls Tryd.prog 7 #[.slice A n c, .int .i64 item] w (Ret (.tuple #[.int .i64 (gapV xs item).1, .bool (gapV xs item).2]) w) := by
  cases hB : gapB xs item with
  | false =>
    rw [gapV_no hB]
    go_enter Tryd.func7, Tryd.ntmps7
    go_wp2_with fail
    refine (l26Good_any A n c xs _ hn hA h20).mono ?_
    rintro e w1 ⟨rfl, b1⟩
    go_wp2_with (first
      | (go_at_call 29; refine (l26Item_any _ _).mono ?_; rintro e w' ⟨rfl, rfl⟩)
      | fail)
    any_goals (go_ret2; exact ⟨rfl, b1⟩)
    all_goals (exfalso; go_light; grind [gapB])
  | true =>
    have hB' := hB
    simp only [gapB, Bool.and_eq_true] at hB'
    obtain ⟨hv, hi⟩ := hB'
    have hV : gapV xs item = gapL xs item xs := by rw [gapV, if_pos hB]
    rw [hV]
    have HV := Lib.hid hv
    have C0 := Lib.hid (fun w h => l26Good_any A n c xs w hn h h20)
    have C1 := Lib.hid (fun w => l26Item_any item w)
    rw [hv] at C0
    rw [hi] at C1
    have HB := Lib.hid (fun x h => insB_bd (insL_mem hv (x := x) h))
    clear hv hi hV hB
    go_enter Tryd.func7, Tryd.ntmps7
    go_wp2_with fail
    refine (C0.out _ hA).mono ?_
    rintro e w1 ⟨rfl, b1⟩
    go_wp2_with fail
    refine (C1.out _).mono ?_
    rintro e w' ⟨rfl, rfl⟩
    have hA1 := hA.below b1
    clear hA
    go_wp2_with fail
    go_loopw [6] (fun i wr => ∃ (k : Nat), k ≤ n ∧ i = .int .i64 k ∧ (∀ (j : Nat) (y : R5), j < k → xs[j]? = some y → isItemOf item y = false) ∧ w1 = wr) (fun i _ => n - (intOf i).toNat)
    case atStart => exact ⟨0, by omega, rfl, fun j y hj => by omega, rfl⟩
    case round =>
      obtain ⟨k, hk, rfl, hrel, rfl⟩ := hrel
      have HR := Lib.hid hrel
      clear hrel
      by_cases hlt : k < n
      · obtain ⟨x, hxk⟩ : ∃ x, xs[k]? = some x := ⟨xs[k], List.getElem?_eq_getElem (by omega)⟩
        obtain ⟨g, o, hAe, hg, c0, c1, c2, c3, c4⟩ := hA1.at5 hxk
        have HA2 := Lib.hid hA1
        subst hAe
        have HX := Lib.hid hxk
        clear hxk hA1
        by_cases hc : x.a = item
        · have h1 : (x.a != item) = false := by simp [hc]
          have HC := Lib.hid hc
          clear hc
          have hp : isItemOf item x = true := by simp [isItemOf, HC.out]
          have HL := Lib.hid (gapL_hit (xs := xs) HR.out HX.out hp)
          obtain ⟨-, ⟨x1, x2⟩, -⟩ := HB.out x (List.mem_of_getElem? HX.out)
          clear hp
          go_wp2_with fail
          go_loopw [7] (fun d wr => ∃ (j : Int), x.b ≤ j ∧ j ≤ 4001 ∧ d = .int .i64 j ∧ gapL xs item xs = gapFrom xs item (4001 - j).toNat j ∧ Below w1.heap.size w1 wr) (fun d _ => (4001 - intOf d).toNat)
          case atStart => exact ⟨x.b, by omega, by omega, rfl, HL.out, Below.refl _ _⟩
          case round =>
            obtain ⟨j, hj1, hj2, rfl, hrel, hb⟩ := hrel
            have HR2 := Lib.hid hrel
            clear hrel c0 c1 c2 c3 c4
            by_cases hlt : j ≤ 4000
            · go_wp2_with fail
              refine (l26Cover_any _ n c xs item j _ hn (HA2.out.below hb) HV.out).mono ?_
              rintro e w3 ⟨rfl, b3⟩
              obtain ⟨q, hq⟩ : ∃ q, q = cov xs item j := ⟨_, rfl⟩
              rw [← hq]
              have HQ := Lib.hid hq
              clear hq
              by_cases hz : q = 0
              · have h1 : (q == 0) = true := by simp [hz]
                have HZ := Lib.hid hz
                clear hz
                go_wp2
                go_ret2
                exact ⟨ret_gap (HR2.out.trans (gapFrom_yes (by rw [← HQ.out]; exact HZ.out) hlt)), b1.trans ((hb.trans (b3.mono hb.size)).mono b1.size)⟩
              · have h1 : (q == 0) = false := by simp [hz]
                go_wp2
                go_roundw
                case rel => exact ⟨j + 1, by omega, by omega, by go_num, HR2.out.trans (gapFrom_no (by rw [← HQ.out]; exact hz) hlt), hb.trans (b3.mono hb.size)⟩
                case measure => simp [intOf]; omega
            · go_wp2
              go_ret2
              exact ⟨ret_gap (HR2.out.trans (gapFrom_end (by omega))), b1.trans (hb.mono b1.size)⟩
        · have h1 : (x.a != item) = true := by simp [hc]
          go_wp2
          go_roundw
          case rel =>
            refine ⟨k + 1, by omega, by go_num, fun j y hj hy => ?_, trivial⟩
            rcases Nat.lt_or_ge j k with h | h
            · exact HR.out j y h hy
            · have : j = k := by omega
              subst this; rw [HX.out] at hy; injection hy with hy; subst hy; simp [isItemOf, hc]
          case measure => simp [intOf]; omega
      · go_wp2
        go_ret2
        exact ⟨ret_gap (gapL_miss (fun y hy => by
          obtain ⟨j, hj, rfl⟩ := List.getElem_of_mem hy
          exact HR.out j _ (by omega) (List.getElem?_eq_getElem hj))), b1⟩
end Go.Proofs.YtiafiehglfmjaaaDoor
