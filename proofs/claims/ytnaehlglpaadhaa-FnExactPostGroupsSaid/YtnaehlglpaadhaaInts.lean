/- Comparisons and marks of lists of ints. -/
import Derived.Test.YtnaehlglpaadhaaIn
import Derived.Test.YtnaehlglpaadhaaExt
namespace Go.Proofs.Ytnaehlglpaadhaa
set_option linter.unusedVariables false
set_option linter.unusedSimpArgs false
open Go.RowKit

set_option maxHeartbeats 400000 in
theorem eqIntS_same (A B : Option Addr) (n c d : Nat) (xs : List Int) (w : World) (hn : xs.length = n) (hA : Rd w A (cells1 xs)) (hB : Rd w B (cells1 xs)) (h20 : n ≤ 1048576) :
    Calls Try.prog 23 #[.slice A n c, .slice B n d] w (Ret (.bool true) w) := by
  go_enter Try.func23, Try.ntmps23
  go_wp2_with fail
  go_loopw [4, 5] (fun r i wr => ∃ k : Nat, k ≤ n ∧ i = .int .i64 k ∧ r = .bool false ∧ Below w.heap.size w wr) (fun _ i _ => n - (intOf i).toNat)
  case atStart => exact ⟨0, Nat.zero_le _, rfl, rfl, Below.refl _ _⟩
  case round =>
    obtain ⟨k, hk, rfl, rfl, hb⟩ := hrel
    by_cases hlt : k < n
    · obtain ⟨x, hxk⟩ : ∃ x, xs[k]? = some x := ⟨xs[k], List.getElem?_eq_getElem (by omega)⟩
      obtain ⟨g, o, rfl, hg, c0⟩ := (hA.below hb).at1 hxk
      obtain ⟨g', o', rfl, hg', d0⟩ := (hB.below hb).at1 hxk
      clear hA hB hxk
      go_wp2_with fail
      refine wp_region_lat wr.heap.size (by kernel_rfl) (by kernel_rfl) ?_
      have LC := fun (u : Lat wr.heap.size wr) => u.cell
      repeat (go_big_quiet_step (fail))
      refine wpQuiet_nil ?_
      intro w1 hb1
      clear LC
      go_wp2
      go_roundw
      case rel => exact ⟨k + 1, by omega, by go_num, rfl, hb.trans (hb1.mono hb.size)⟩
      case measure => simp [intOf]; omega
    · go_wp2
      go_ret
      exact ⟨rfl, hb⟩

set_option maxHeartbeats 400000 in
theorem markIntS_any (base n : Nat) (v : Value) (cs : List Value) (k0 : Int) (w : World) (ho : w.ownsRow base 3 1 v n cs) (h20 : n ≤ 1048576) (hk0 : 0 ≤ k0) (hk1 : k0 ≤ 1000000000000) :
    Calls Try.prog 25 #[v, .int .i64 k0] w (RetMark (k0 + n) base 3 1 v n (cells1 (marks1 k0 n)) w) := by
  rcases ho.2 with ⟨rfl, rfl⟩ | ⟨g, cap, cur, rfl, _⟩
  · go_enter Try.func25, Try.ntmps25
    go_wp2_with fail
    refine wp_loop_rounds 1 ?_
    rw [rounds_succ]
    go_wp2
    go_ret
    exact ⟨ret_int (by simp), World.ownsRow_nil _ _ _ _, World.grownBy.refl w _⟩
  · go_enter Try.func25, Try.ntmps25
    go_wp2_with fail
    go_loopw [1, 5] (fun q i wr => ∃ k : Nat, k ≤ n ∧ i = .int .i64 k ∧ q = .int .i64 (k0 + k) ∧ MarkRel1 w base 3 g n cap k0 k wr) (fun _ i _ => n - (intOf i).toNat)
    case atStart => exact ⟨0, Nat.zero_le _, rfl, by simp, cs, by simpa using ho.1, by simpa [marks1, cells1] using ho, World.grownBy.refl w _⟩
    case round =>
      obtain ⟨k, hk, rfl, rfl, hrel⟩ := hrel
      by_cases hlt : k < n
      · have HR := Lib.hid (hrel.step hlt)
        obtain ⟨rest, _, ho', hB⟩ := hrel
        have hth := own_there ho' k 1 (by omega)
        obtain ⟨⟨v0, c0⟩, f0⟩ := (hth 0 (by omega)).imp_left Option.isSome_iff_exists.1
        clear hth ho' ho hB
        simp only [Nat.add_zero] at c0 f0
        go_wp2
        go_roundw
        case rel => exact ⟨k + 1, by omega, by go_num, by go_num, HR.out⟩
        case measure => simp [intOf]; omega
      · go_wp2
        go_ret
        obtain ⟨rest, hrl, ho, hB⟩ := hrel
        have hkn : k = n := by omega
        subst hkn
        have : rest = [] := List.eq_nil_of_length_eq_zero (by simpa using hrl)
        subst this
        rw [List.append_nil] at ho
        exact ⟨rfl, ho, hB⟩

set_option maxHeartbeats 400000 in
theorem heldIntS_any (A : Option Addr) (n c : Nat) (k0 : Int) (w : World) (hA : Rd w A (cells1 (marks1 k0 n))) (h20 : n ≤ 1048576) (hk0 : 0 ≤ k0) (hk1 : k0 ≤ 1000000000000) :
    Calls Try.prog 26 #[.slice A n c, .int .i64 k0] w (RetS (.int .i64 (k0 + n)) w) := by
  go_enter Try.func26, Try.ntmps26
  go_wp2_with fail
  go_loopw [1, 4, 5] (fun q r i wr => ∃ k : Nat, k ≤ n ∧ i = .int .i64 k ∧ q = .int .i64 (k0 + k) ∧ r = .int .i64 0 ∧ w = wr) (fun _ _ i _ => n - (intOf i).toNat)
  case atStart => exact ⟨0, Nat.zero_le _, rfl, by simp, rfl, rfl⟩
  case round =>
    obtain ⟨k, hk, rfl, rfl, rfl, rfl⟩ := hrel
    by_cases hlt : k < n
    · obtain ⟨g, o, rfl, hg, c0⟩ := hA.at1 (marks1_get k0 n k hlt)
      clear hA
      go_wp2
      go_roundw
      case rel => exact ⟨k + 1, by omega, by go_num, by go_num, rfl, trivial⟩
      case measure => simp [intOf]; omega
    · go_wp2
      go_ret
      have hkn : k = n := by omega
      subst hkn
      exact ⟨rfl, rfl⟩
end Go.Proofs.Ytnaehlglpaadhaa
