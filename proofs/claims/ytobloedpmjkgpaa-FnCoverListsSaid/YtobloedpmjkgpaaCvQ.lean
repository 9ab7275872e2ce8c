/- What the law on lists of covers does by itself; the bytes that it is handed. -/
import Derived.Test.YtobloedpmjkgpaaCurL
import Derived.Test.YtobloedpmjkgpaaOpen
import Derived.Test.YtobloedpmjkgpaaRise
import Derived.Test.YtobloedpmjkgpaaList
namespace Go.Proofs.Ytobloedpmjkgpaa
set_option linter.unusedVariables false
set_option linter.unusedSimpArgs false
open Go.RowKit

set_option maxHeartbeats 400000 in
theorem vBig_any (B : Option Addr) (n c : Nat) (w : World) (hn : n ≤ maxLen) : Calls Try.prog 4 #[.slice B n c] w (RetS (.bool (decide ((65536 : Int) < n))) w) := by
  unfold maxLen at hn
  go_enter Try.func4, Try.ntmps4
  go_wp2
  go_ret
  exact ⟨ret_bool (by first | rfl | (simp; done) | (simp; omega)), rfl⟩

set_option maxHeartbeats 400000 in
theorem vInts_same (A B : Option Addr) (n c d : Nat) (xs : List Int) (w : World) (hn : xs.length = n) (hA : Rd w A (cells1 xs)) (hB : Rd w B (cells1 xs)) (h20 : n ≤ 1048576) :
    Calls Try.prog 8 #[.slice A n c, .slice B n d] w (Ret (.bool true) w) := by
  go_enter Try.func8, Try.ntmps8
  go_wp2_with fail
  go_loopw [4, 5] (fun r i wr => ∃ k : Nat, k ≤ n ∧ i = .int .i64 k ∧ r = .bool false ∧ Below w.heap.size w wr) (fun _ i _ => n - (intOf i).toNat)
  case atStart => exact ⟨0, Nat.zero_le _, rfl, rfl, Below.refl _ _⟩
  case round =>
    obtain ⟨k, hk, rfl, rfl, hb⟩ := hrel
    by_cases hlt : k < n
    · obtain ⟨x, hxk⟩ : ∃ x, xs[k]? = some x := ⟨xs[k], List.getElem?_eq_getElem (by omega)⟩
      obtain ⟨g, o, rfl, hg, c0⟩ := (hA.below hb).at1 hxk
      obtain ⟨g', o', rfl, hg', d0⟩ := (hB.below hb).at1 hxk
      clear hA hB hxk
      go_wp2_with fail
      refine wp_region_lat wr.heap.size (by kernel_rfl) (by kernel_rfl) ?_
      have LC := fun (u : Lat wr.heap.size wr) => u.cell
      repeat (go_big_quiet_step (fail))
      refine wpQuiet_nil ?_
      intro w1 hb1
      clear LC
      go_wp2
      go_roundw
      case rel => exact ⟨k + 1, by omega, by go_num, rfl, hb.trans (hb1.mono hb.size)⟩
      case measure => simp [intOf]; omega
    · go_wp2
      go_ret
      exact ⟨rfl, hb⟩



set_option maxHeartbeats 400000 in
theorem vHas_any (A : Option Addr) (n c : Nat) (xs : List Int) (x : Int) (w : World) (hn : xs.length = n) (hA : Rd w A (cells1 xs)) (h20 : n ≤ 1048576) :
    Calls Try.prog 17 #[.slice A n c, .int .i64 x] w (RetS (.bool (hasB xs x)) w) := by
  go_enter Try.func17, Try.ntmps17
  go_wp2_with fail
  go_loopw [4, 5] (fun r i wr => ∃ k : Nat, k ≤ n ∧ i = .int .i64 k ∧ r = .bool false ∧ x ∉ xs.take k ∧ w = wr) (fun _ i _ => n - (intOf i).toNat)
  case atStart => exact ⟨0, Nat.zero_le _, rfl, rfl, by simp, rfl⟩
  case round =>
    obtain ⟨k, hk, rfl, rfl, hno, rfl⟩ := hrel
    have HNO := Lib.hid hno
    clear hno
    by_cases hlt : k < n
    · obtain ⟨y, hyk⟩ : ∃ y, xs[k]? = some y := ⟨xs[k], List.getElem?_eq_getElem (by omega)⟩
      obtain ⟨g, o, rfl, hg, c0⟩ := hA.at1 hyk
      have HY := Lib.hid hyk
      clear hA hyk
      by_cases he : y = x
      · have hd : (y == x) = true := by simp [he]
        have HE := Lib.hid he
        have HH : Hid (hasB xs x = true) := Lib.hid (by
          have hm := List.mem_of_getElem? HY.out
          rw [he] at hm
          cases hq : hasB xs x with
          | true => rfl
          | false => exact absurd hm (hasB_false.1 hq))
        clear he
        go_wp2
        go_ret
        exact ⟨by rw [HH.out]; rfl, rfl⟩
      · have hd : (y == x) = false := by simp [he]
        have HE := Lib.hid he
        clear he
        go_wp2
        go_roundw
        case rel =>
          refine ⟨k + 1, by omega, by go_num, rfl, ?_, by first | rfl | trivial⟩
          rw [List.take_add_one, HY.out]
          simp only [Option.toList, List.mem_append, List.mem_singleton, not_or]
          exact ⟨HNO.out, fun e => HE.out e.symm⟩
        case measure => simp [intOf]; omega
    · have HH : Hid (hasB xs x = false) := Lib.hid (by rw [hasB_false]; have h := HNO.out; rwa [List.take_of_length_le (by omega)] at h)
      go_wp2
      go_ret
      exact ⟨by rw [HH.out]; rfl, rfl⟩

set_option maxRecDepth 20000 in

section
open Go.ChangeShapes Go.WideShapes Go.ChangeAt Go.Deep
variable {H : Type} {enc : TypeId × Value → H} {P : Program} {w : World} {base : Nat} {spare : Nat → Bool} {held : Bool}
theorem openU {t e : TypeId} {A : Option Addr} {len cap : Nat} {d : DataW H} {p : List MemPlace} (ht : P.underlying t = some (.slice e)) (he : P.underlying e = some (.int .u8)) (hC : P.cellsOf e = 1)
    (h : DataW.Trod enc P w base spare held t (.slice A len cap) d p) : ∃ zs : List Int, zs.length = len ∧ Rd w A (cellsU zs) ∧ len ≤ maxLen ∧ ∀ z ∈ zs, 0 ≤ z ∧ z ≤ 255 := by
  obtain ⟨fuel, hf⟩ := h
  rcases open_ints ht he hC hf with ⟨hcs, _⟩ | ⟨a, l, c, zs, hcs, _, hl, hm, hlen, _, hcell, hwf⟩
  · simp [Value.cells] at hcs
    obtain ⟨rfl, rfl, rfl⟩ := hcs
    exact ⟨[], rfl, .inl rfl, Nat.zero_le _, by simp⟩
  · simp [Value.cells] at hcs
    obtain ⟨rfl, rfl, rfl⟩ := hcs
    have hlz : len ≤ zs.length := by rw [hlen]; split <;> omega
    refine ⟨zs.take len, by rw [List.length_take]; omega, ?_, by omega, fun z hz => ?_⟩
    · rcases Nat.eq_zero_or_pos len with h0 | hpos
      · left; subst h0; rfl
      · right
        obtain ⟨g, o, sp⟩ := a
        have hc0 := hcell 0 (by omega)
        have hsp : sp = none := by
          have := World.cell?_spot hc0
          simpa [Addr.add] using this
        subst hsp
        refine ⟨g, o, rfl, ?_, fun q v hq => ?_⟩
        · have := World.block_lt_of_cell? w _ hc0
          rw [Addr.add_mid] at this; exact this
        · have hql : q < len := by have := (List.getElem?_eq_some_iff.1 hq).1; simp [cellsU] at this; omega
          have h1 := hcell q (by omega)
          rw [Addr.add_mid] at h1
          rw [h1, ← hq]
          simp [cellsU, List.getElem?_take, hql, show q < zs.length by omega]
    · have := hwf z (List.mem_of_mem_take hz)
      simp only [Lit.wf, Bool.and_eq_true, decide_eq_true_eq] at this
      have h1 : IntKind.u8.min = 0 := by decide
      have h2 : IntKind.u8.max = 255 := by decide
      omega
end
end Go.Proofs.Ytobloedpmjkgpaa
