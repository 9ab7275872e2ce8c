/- The least minutes of all offices: slices.Repeat, and the program's loop. -/
import Derived.Test.YtobloedpmjkgpaaCvB
import Derived.Test.YtobloedpmjkgpaaList
import Derived.Laws.CopyOwn
import Derived.Laws.Bits64b
namespace Go.Proofs.Ytobloedpmjkgpaa
set_option linter.unusedVariables false
set_option linter.unusedSimpArgs false
open Go.RowKit

theorem bitsMul64_any (w : World) : Calls Try.prog 78 #[.int .u64 1, .int .u64 10] w (RetS (.tuple #[.int .u64 0, .int .u64 10]) w) := by
  have e1 : bits .and .u64 1 4294967295 = 1 := bits_and_u64_nat 1 4294967295 (by omega) (by omega)
  have e2 : bits .and .u64 10 4294967295 = 10 := bits_and_u64_nat 10 4294967295 (by omega) (by omega)
  have e3 : bits .and .u64 0 4294967295 = 0 := bits_and_u64_nat 0 4294967295 (by omega) (by omega)
  go_enter Try.func78, Try.ntmps78
  go_wp2
  go_ret2
  exact ⟨by simp [e1, e2, e3], rfl⟩
theorem bitsMul_any (w : World) : Calls Try.prog 76 #[.int .u64 1, .int .u64 10] w (RetS (.tuple #[.int .u64 0, .int .u64 10]) w) := by
  have C := Lib.hid (fun w => bitsMul64_any w)
  go_enter Try.func76, Try.ntmps76
  go_wp2_with fail
  refine (C.out _).mono ?_
  rintro e w1 ⟨rfl, rfl⟩
  go_wp2
  go_ret2
  exact ⟨rfl, rfl⟩

/-- The row that Repeat fills: k of ten are laid. -/
def repC (k : Nat) : List Value := cells1 (List.replicate k (-1) ++ List.replicate (10 - k) 0)
theorem repC_len {k : Nat} (h : k ≤ 10) : (repC k).length = 10 := by simp [repC, cells1]; omega
theorem repC_step {k m : Nat} (h : k + m ≤ 10) : splice (repC k) k (cells1 (List.replicate m (-1))) = repC (k + m) := by
  unfold splice repC
  simp only [cells1, List.map_append, List.map_replicate, List.length_replicate]
  rw [List.take_left' (by simp), List.drop_append, List.drop_eq_nil_of_le (by simp), List.drop_replicate, List.nil_append, ← List.append_assoc, List.replicate_append_replicate]
  congr 2
  simp; omega
theorem repC_at {k j : Nat} (h : j < k) : (repC k)[j]? = some (.int .i64 (-1)) := by
  unfold repC cells1
  rw [List.map_append, List.getElem?_append_left (by simpa using h), List.map_replicate, List.getElem?_replicate, if_pos h]
theorem heap_new (w : World) (x : Obj) : (w.alloc x).heap[w.heap.size]? = some x := by unfold World.alloc; simp
theorem own_rep {w : World} {G k : Nat} (hk : k ≤ 10) (h : w.heap[G]? = some (.cells (repC k).toArray 3 (0, 0))) : w.ownsRow G 3 1 (.slice (some ⟨G, 0, none⟩) 10 10) 10 (repC k) :=
  ⟨by rw [repC_len hk], .inr ⟨G, 10, _, rfl, Nat.le_refl _, h, Nat.le_refl _, by unfold maxLen; omega, by simp [repC_len hk], by rw [List.take_of_length_le (by rw [repC_len hk]; omega)]⟩⟩
set_option maxHeartbeats 4000000 in
set_option maxRecDepth 20000 in
/-- Ten times -1. -/
theorem repeat10_any (A : Option Addr) (c : Nat) (w : World) (hA : Rd w A (cells1 [-1])) :
    Calls Try.prog 69 #[.slice A 1 c, .int .i64 10] w (RetOwn 3 1 10 (cells1 (List.replicate 10 (-1))) w) := by
  obtain ⟨g, o, rfl, hg, c0⟩ := hA.at1 (k := 0) (z := -1) rfl
  rw [Nat.add_zero] at c0
  obtain ⟨ar, har⟩ : ∃ ar, ar = madeCells (Value.cells (.int .i64 0)) 10 := ⟨_, rfl⟩
  have hm : ∀ W, (Instr.makeSlice 29 (.int .i64 10) (.int .i64 10)).run Try.prog W = .ok (.slice (some ⟨W.heap.size, 0, none⟩) 10 10) (W.alloc (.cells ar 3)) := fun W => by
    rw [har]
    have h := run_make_info (P := Try.prog) 29 3 _ 1 8 Try.underlying29 infoI 10 (by omega) (by omega) W
    rw [Nat.mul_one] at h; exact h
  have hzt : ar.toList = repC 0 := by rw [har, show Value.cells (.int .i64 0) = #[.int .i64 0] from rfl, toList_madeCells_one]; simp [repC, cells1]
  have HZT := Lib.hid (show ar = (repC 0).toArray by rw [← hzt])
  have hsz : (Try.prog.info? 3).map (·.size) = some 1 := by kernel_rfl
  have CM := Lib.hid (fun w => bitsMul_any w)
  have HC0 := Lib.hid c0
  clear har hzt hA
  go_enter Try.func69, Try.ntmps69
  go_wp2_with fail
  refine (CM.out _).mono ?_
  rintro e w1 ⟨rfl, rfl⟩
  have HH0 : Hid ((w.alloc (.cells ar 3)).heap[w.heap.size]? = some (.cells (repC 0).toArray 3 (0, 0))) := Lib.hid (by rw [HZT.out]; exact heap_new _ _)
  have hcs : ∀ (W : World), (W.cell? ⟨g, o, none⟩ = some (.int .i64 (-1))) → ∀ (j : Nat) (v : Value), (cells1 (List.replicate 1 (-1)))[j]? = some v → W.cell? ((⟨g, o, none⟩ : Addr).add j) = some v := fun W h j v hv => by
    cases j with
    | zero => simp [cells1] at hv; subst hv; rw [Addr.add_mid]; simpa using h
    | succ j => simp [cells1] at hv
  have HCS := Lib.hid hcs
  clear hcs HZT
  go_wp2_with (refine wpList_copy_splice rfl (.tmp 31) (.tmp 32) 29 29 rfl 3 Try.underlying29 hsz _ _ _ _ _ _ rfl rfl w.heap.size 0 (repC 0) 3 HH0.out (cells1 (List.replicate 1 (-1))) rfl (fun _ => ⟨rfl, _, rfl, HCS.out _ ((World.cell?_alloc_lt _ _ _ hg).trans HC0.out)⟩) (by simp [repC, cells1]) (oneCell_ints _) w.heap.size w ((Below.refl _ _).alloc (Nat.le_refl _) _) (Nat.le_refl _) ?_; intro w2 hg2 hb2)
  have HG : Hid (w2.heap[w.heap.size]? = some (.cells (repC 1).toArray 3 (0, 0))) := Lib.hid (by have h := hg2.out; rw [repC_step (by omega)] at h; exact h)
  have HB2 := Lib.hid hb2
  clear hg2 hb2 HC0 HCS HH0 c0 hm CM
  rw [show (cells1 [-1]).length = 1 from rfl, show ((1 : Nat) : Int) = 1 from rfl]
  go_loopw [8] (fun i wr => ∃ k : Nat, i = .int .i64 k ∧ 1 ≤ k ∧ k ≤ 10 ∧ wr.heap[w.heap.size]? = some (.cells (repC k).toArray 3 (0, 0)) ∧ Below w.heap.size w wr) (fun i _ => 10 - (intOf i).toNat)
  case atStart => exact ⟨1, rfl, by omega, by omega, HG.out, HB2.out⟩
  case round =>
    clear HG HB2
    obtain ⟨k, rfl, h1, h2, hh, hb⟩ := hrel
    have HH := Lib.hid hh
    have HB := Lib.hid hb
    clear hh hb
    by_cases hk : k < 10
    · have hk' : (k : Int) < 10 := by omega
      have hk1 : (k : Int) ≤ 10 := by omega
      have hk10 : ¬ 10 = k := by omega
      have hk0 : (0 : Int) ≤ (k : Int) := by omega
      obtain ⟨m, hm⟩ : ∃ m, m = Nat.min k (10 - k) := ⟨_, rfl⟩
      have hmd : m = if k ≤ 10 - k then k else 10 - k := by rw [hm]; exact Nat.min_def
      have hm1 : k + m ≤ 10 := by rw [hmd]; split <;> omega
      have hm2 : 1 ≤ m := by rw [hmd]; split <;> omega
      have hm3 : m ≤ k := by rw [hmd]; split <;> omega
      clear hmd
      have HM := Lib.hid hm
      have hwr : IntKind.i64.wrap ((k : Int) + (m : Int)) = (k : Int) + (m : Int) := IntWalk.i64_in _ (by omega)
      have hl : (cells1 (List.replicate m (-1))).length = m := by simp [cells1]
      have HS : Hid (∀ (j : Nat) (v : Value), (cells1 (List.replicate m (-1)))[j]? = some v → wr.cell? ((⟨w.heap.size, 0, none⟩ : Addr).add j) = some v) := Lib.hid (fun j v hv => by
        have hj : j < m := by have := (List.getElem?_eq_some_iff.1 hv).1; omega
        have e : v = .int .i64 (-1) := by simp [cells1, hj] at hv; exact hv.symm
        subst e
        rw [Addr.add_mid, Nat.zero_add]
        have h := (own_rep h2 HH.out).cellAt j (by omega)
        exact h.trans (repC_at (by omega)))
      clear hm
      go_wp2_with fail
      go_region_law (refine step_copy_splice rfl (.tmp 41) (.tmp 44) 29 29 rfl 3 Try.underlying29 hsz _ _ _ _ _ _ (by first | rfl | simp [Act.eval, Act.put]) (by first | rfl | simp [Act.eval, Act.put]) w.heap.size k (repC k) 3 HH.out (cells1 (List.replicate m (-1))) (by rw [hl, HM.out]) (fun _ => ⟨by first | rfl | exact if_neg hk10, _, rfl, HS.out⟩) (by rw [hl, repC_len h2]; exact hm1) (oneCell_ints _) w.heap.size w HB.out.drew (Nat.le_refl _) ?_; intro w4 hg4 hb4)
      all_goals go_goals
      all_goals (
        have HN : w4.heap[w.heap.size]? = some (.cells (repC (k + m)).toArray 3 (0, 0)) := by have h := hg4.out; rw [repC_step hm1] at h; exact h
        have HN2 := Lib.hid HN
        have HB4 := Lib.hid hb4
        clear HN hg4 hb4 HS
        simp only [List.getElem_toArray, List.getElem_cons_succ, List.getElem_cons_zero, Act.put, List.setIfInBounds_toArray, List.set_cons_zero, List.set_cons_succ]
        go_wp2_with fail
        go_roundw
        case rel => exact ⟨k + m, by first | go_num | (rw [hl]; go_num), by omega, by omega, HN2.out, HB4.out⟩
        case measure => simp [intOf, hl]; omega)
    · obtain rfl : k = 10 := by omega
      go_wp2
      go_ret
      have ho := own_rep (Nat.le_refl _) HH.out
      exact ⟨_, rfl, by simpa [repC] using ho, HB.out⟩
end Go.Proofs.Ytobloedpmjkgpaa
