/- Lists of ints: whether a number is in one, clones. -/
import Derived.Test.YtehohkdipfphmaaDoorIn
import Derived.Test.YtehohkdipfphmaaDoorExt
import Derived.Lib.SliceRun
namespace Go.Proofs.YtehohkdipfphmaaDoor
set_option linter.unusedVariables false
set_option linter.unusedSimpArgs false
open Go.RowKit

theorem infoI : (Tryd.prog.info? 3).map (fun i => (i.zero, i.size, i.bytes)) = some (some (.int .i64 0), 1, 8) := by kernel_rfl

/-- Whether a number is in a list. -/
def hasB (zs : List Int) (x : Int) : Bool := zs.any (fun z => z == x)
theorem hasB_true {zs : List Int} {x : Int} : hasB zs x = true ↔ x ∈ zs := by
  unfold hasB; rw [List.any_eq_true]
  exact ⟨fun ⟨z, hz, h⟩ => by simp at h; subst h; exact hz, fun h => ⟨x, h, by simp⟩⟩
theorem hasB_false {zs : List Int} {x : Int} : hasB zs x = false ↔ x ∉ zs := by
  rw [← hasB_true, Bool.not_eq_true]
theorem hasB_hit {zs : List Int} {x : Int} {k : Nat} (h : zs[k]? = some x) : hasB zs x = true := hasB_true.2 (List.mem_of_getElem? h)
theorem hasB_miss {zs : List Int} {x : Int} (h : ∀ (j : Nat) (y : Int), zs[j]? = some y → (y == x) = false) : hasB zs x = false := by
  rw [hasB_false]
  intro hx
  obtain ⟨k, hk⟩ := List.mem_iff_getElem?.1 hx
  have := h k x hk
  simp at this

set_option maxHeartbeats 400000 in
theorem l1Has_any (A : Option Addr) (n c : Nat) (zs : List Int) (x : Int) (w : World) (hn : zs.length = n) (hA : Rd w A (cells1 zs)) (h20 : n ≤ 1048576) :
    Calls Tryd.prog 35 #[.slice A n c, .int .i64 x] w (RetS (.bool (hasB zs x)) w) := by
  go_enter Tryd.func35, Tryd.ntmps35
  go_wp2_with fail
  go_loopw [5, 4] (fun i r wr => ∃ k : Nat, k ≤ n ∧ i = .int .i64 k ∧ r = .bool false ∧ (∀ (j : Nat) (y : Int), j < k → zs[j]? = some y → (y == x) = false) ∧ w = wr) (fun i _ _ => n - (intOf i).toNat)
  case atStart => exact ⟨0, Nat.zero_le _, rfl, rfl, fun j y hj => by omega, rfl⟩
  case round =>
    obtain ⟨k, hk, rfl, rfl, hrel, rfl⟩ := hrel
    have HR := Lib.hid hrel
    clear hrel
    by_cases hlt : k < n
    · obtain ⟨y, hyk⟩ : ∃ y, zs[k]? = some y := ⟨zs[k], List.getElem?_eq_getElem (by omega)⟩
      obtain ⟨g, o, hAe, hg, c0⟩ := hA.at1 hyk
      subst hAe
      have HY := Lib.hid hyk
      clear hyk hA
      by_cases he : y = x
      · have h1 : (y == x) = true := by simp [he]
        have HB := Lib.hid (show hasB zs x = true from hasB_hit (k := k) (by rw [HY.out, he]))
        clear he
        go_wp2
        go_ret
        exact ⟨ret_bool HB.out.symm, rfl⟩
      · have h1 : (y == x) = false := by simp [he]
        have H1 := Lib.hid h1
        go_wp2
        go_roundw
        case rel =>
          refine ⟨k + 1, by omega, by go_num, rfl, fun j z hj hz => ?_, trivial⟩
          rcases Nat.lt_or_ge j k with h | h
          · exact HR.out j z h hz
          · have : j = k := by omega
            subst this; rw [HY.out] at hz; injection hz with hz; subst hz; exact H1.out
        case measure => simp [intOf]; omega
    · go_wp2
      go_ret
      exact ⟨ret_bool (hasB_miss (fun j y hy => HR.out j y (by have := (List.getElem?_eq_some_iff.1 hy).1; omega) hy)).symm, rfl⟩

set_option maxHeartbeats 400000 in
theorem indexInt_any (A : Option Addr) (n c : Nat) (zs : List Int) (x : Int) (w : World) (hn : zs.length = n) (hA : Rd w A (cells1 zs)) (h20 : n ≤ 1048576) :
    Calls Tryd.prog 59 #[.slice A n c, .int .i64 x] w (RetS (.int .i64 (idxV (fun y => y == x) zs)) w) := by
  go_enter Tryd.func59, Tryd.ntmps59
  go_wp2_with fail
  go_loopw [8, 4, 5] (fun i r _ wr => ∃ k : Nat, k ≤ n ∧ i = .int .i64 k ∧ r = .int .i64 0 ∧ (∀ (j : Nat) (y : Int), j < k → zs[j]? = some y → (y == x) = false) ∧ w = wr) (fun i _ _ _ => n - (intOf i).toNat)
  case atStart => exact ⟨0, Nat.zero_le _, rfl, rfl, fun j y hj => by omega, rfl⟩
  case round =>
    obtain ⟨k, hk, rfl, rfl, hrel, rfl⟩ := hrel
    have HR := Lib.hid hrel
    clear hrel
    by_cases hlt : k < n
    · obtain ⟨y, hyk⟩ : ∃ y, zs[k]? = some y := ⟨zs[k], List.getElem?_eq_getElem (by omega)⟩
      obtain ⟨g, o, hAe, hg, c0⟩ := hA.at1 hyk
      subst hAe
      have HY := Lib.hid hyk
      clear hyk hA
      by_cases he : x = y
      · have h1 : (x == y) = true := by simp [he]
        have HB := Lib.hid (show idxV (fun y => y == x) zs = k from idxV_hit HR.out HY.out (by simp [he]))
        clear he
        go_wp2
        go_ret
        exact ⟨ret_int HB.out.symm, rfl⟩
      · have h1 : (x == y) = false := by simp [he]
        have H1 := Lib.hid (show (y == x) = false by simp; exact fun h => he h.symm)
        go_wp2
        go_roundw
        case rel =>
          refine ⟨k + 1, by omega, by go_num, rfl, fun j z hj hz => ?_, trivial⟩
          rcases Nat.lt_or_ge j k with h | h
          · exact HR.out j z h hz
          · have : j = k := by omega
            subst this; rw [HY.out] at hz; injection hz with hz; subst hz; exact H1.out
        case measure => simp [intOf]; omega
    · go_wp2
      go_ret
      exact ⟨ret_int (idxV_miss (fun j y hy => HR.out j y (by have := (List.getElem?_eq_some_iff.1 hy).1; omega) hy)).symm, rfl⟩

theorem containsInt_any (A : Option Addr) (n c : Nat) (zs : List Int) (x : Int) (w : World) (hn : zs.length = n) (hA : Rd w A (cells1 zs)) (h20 : n ≤ 1048576) :
    Calls Tryd.prog 33 #[.slice A n c, .int .i64 x] w (RetS (.bool (hasB zs x)) w) := by
  have C1 := Lib.hid (fun w h => indexInt_any A n c zs x w hn h h20)
  obtain ⟨q, hq⟩ : ∃ q, q = idxV (fun y => y == x) zs := ⟨_, rfl⟩
  rw [← hq] at C1
  have HB : hasB zs x = decide (0 ≤ q) := by
    rw [hq]
    rcases idxV_cases (fun y => y == x) zs with ⟨h, hno⟩ | ⟨k, y, h, hy, hp, _⟩
    · rw [h]
      rw [show hasB zs x = false from hasB_false.2 (fun hx => by have := hno x hx; simp at this)]
      rfl
    · rw [h]
      simp at hp; subst hp
      rw [hasB_hit hy]; simp
  rw [HB]
  clear hq HB
  go_enter Tryd.func33, Tryd.ntmps33
  go_wp2_with fail
  refine (C1.out _ hA).mono ?_
  rintro e w1 ⟨rfl, rfl⟩
  go_wp2
  go_ret
  exact ⟨rfl, rfl⟩

end Go.Proofs.YtehohkdipfphmaaDoor
