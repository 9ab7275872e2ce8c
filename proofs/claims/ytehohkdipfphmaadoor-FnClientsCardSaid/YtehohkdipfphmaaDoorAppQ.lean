/- Approvals: KeepShare: fractions. -/
import Derived.Test.YtehohkdipfphmaaDoorAppN
namespace Go.Proofs.YtehohkdipfphmaaDoor
set_option linter.unusedVariables false
set_option linter.unusedSimpArgs false
open Go.RowKit

def RetQ (a b : Nat) (W : World) : Ending → World → Prop := fun e w' => e = .returned (.tuple #[.int .i64 ((a / Nat.gcd a b : Nat) : Int), .int .i64 ((b / Nat.gcd a b : Nat) : Int)]) ∧ Below W.heap.size W w'
set_option maxHeartbeats 1000000 in
theorem gcd_any (a b : Nat) (w : World) (ha : a ≤ 1000000000000) (hb : b ≤ 1000000000000) : Calls Tryd.prog 60 #[.int .i64 a, .int .i64 b] w (Ret (.int .i64 (Nat.gcd a b)) w) := by
  go_enter Tryd.func60, Tryd.ntmps60
  go_wp2_with fail
  go_loopw [0, 1] (fun p q wr => ∃ (x y : Nat), p = .int .i64 x ∧ q = .int .i64 y ∧ x ≤ 1000000000000 ∧ y ≤ 1000000000000 ∧ Nat.gcd x y = Nat.gcd a b ∧ Below w.heap.size w wr) (fun _ q _ => (intOf q).toNat)
  case atStart => exact ⟨a, b, rfl, rfl, ha, hb, rfl, Below.refl _ _⟩
  case round =>
    obtain ⟨x, y, rfl, rfl, hx, hy, hrel, hbb⟩ := hrel
    have HR := Lib.hid hrel
    clear hrel
    by_cases h0 : y = 0
    · subst h0
      have HE := Lib.hid (show Nat.gcd a b = x by rw [← HR.out, Nat.gcd_zero_right])
      go_wp2
      go_ret
      exact ⟨ret_int (by rw [HE.out]), hbb⟩
    · have e0 : ((y : Int) == 0) = false := by simp; omega
      have e1 : ((y : Int) != 0) = true := by simp; omega
      have e2 : ¬ (y : Int) = 0 := by omega
      have e3 : ¬ y = 0 := h0
      have HM : Hid ((x : Int).tmod y = ((x % y : Nat) : Int)) := Lib.hid (by rw [Int.tmod_eq_emod_of_nonneg (by omega)]; omega)
      have hlt : x % y < y := Nat.mod_lt _ (by omega)
      go_wp2_with fail
      refine wp_region_lat wr.heap.size (by kernel_rfl) (by kernel_rfl) ?_
      have LC := fun (u : Lat wr.heap.size wr) => u.cell
      repeat (go_big_quiet_step (fail))
      refine wpQuiet_nil ?_
      intro w1 hw1
      clear LC
      go_wp2
      go_roundw
      case rel => exact ⟨y, x % y, rfl, by rw [Int.natCast_emod], hy, by omega, by rw [← HR.out, Nat.gcd_comm x y, Nat.gcd_rec y x, Nat.gcd_comm], hbb.trans (hw1.mono hbb.size)⟩
      case measure => simp [intOf]; omega

theorem wrap_small (q : Nat) (h : q ≤ 1000000000000) : wrap64 (q : Int) = (q : Int) := by unfold wrap64; omega
theorem ret_ii {a b c d : Int} (h : a = c) (g : b = d) : Ending.returned (.tuple #[.int .i64 a, .int .i64 b]) = .returned (.tuple #[.int .i64 c, .int .i64 d]) := by rw [h, g]
set_option maxHeartbeats 1000000 in
theorem fraction_any (a b : Nat) (w : World) (ha : a ≤ 1000000000000) (hb : b ≤ 1000000000000) (hb0 : 0 < b) : Calls Tryd.prog 36 #[.int .i64 a, .int .i64 b] w (RetQ a b w) := by
  have C := Lib.hid (fun w => gcd_any a b w ha hb)
  have hd : 0 < Nat.gcd a b := Nat.gcd_pos_of_pos_right a hb0
  unfold RetQ
  obtain ⟨d, hdd⟩ : ∃ d, d = Nat.gcd a b := ⟨_, rfl⟩
  rw [← hdd] at C hd ⊢
  clear hdd
  have H1 : Hid ((a : Int).tdiv d = ((a / d : Nat) : Int)) := Lib.hid (by rw [Int.tdiv_eq_ediv_of_nonneg (by omega)]; omega)
  have H2 : Hid ((b : Int).tdiv d = ((b / d : Nat) : Int)) := Lib.hid (by rw [Int.tdiv_eq_ediv_of_nonneg (by omega)]; omega)
  have q1 : a / d ≤ a := Nat.div_le_self _ _
  have q2 : b / d ≤ b := Nat.div_le_self _ _
  have W1 : Hid (wrap64 ((a : Int) / (d : Int)) = ((a / d : Nat) : Int)) := Lib.hid (by rw [← Int.natCast_ediv]; exact wrap_small _ (by omega))
  have W2 : Hid (wrap64 ((b : Int) / (d : Int)) = ((b / d : Nat) : Int)) := Lib.hid (by rw [← Int.natCast_ediv]; exact wrap_small _ (by omega))
  have e0 : ((d : Int) == 0) = false := by simp; omega
  have e2 : ¬ (d : Int) = 0 := by omega
  have e3 : ¬ d = 0 := by omega
  rcases Nat.eq_zero_or_pos a with h0 | h0
  · subst h0
    go_enter Tryd.func36, Tryd.ntmps36
    go_wp2_with fail
    refine (C.out _).mono ?_
    rintro e w1 ⟨rfl, b1⟩
    go_wp2_with fail
    refine wp_region_lat w1.heap.size (by kernel_rfl) (by kernel_rfl) ?_
    have LC := fun (u : Lat w1.heap.size w1) => u.cell
    repeat (go_big_quiet_step (fail))
    refine wpQuiet_nil ?_
    intro w2 hw2
    clear LC
    have hb2 := b1.trans (hw2.mono b1.size)
    go_wp2
    rw [W2.out]
    go_ret2
    exact ⟨ret_ii (by simp) rfl, hb2⟩
  · have g1 : ¬ (a : Int) < -(a : Int) := by omega
    have g2 : -(a : Int) < (a : Int) := by omega
    go_enter Tryd.func36, Tryd.ntmps36
    go_wp2_with fail
    refine (C.out _).mono ?_
    rintro e w1 ⟨rfl, b1⟩
    go_wp2_with fail
    refine wp_region_lat w1.heap.size (by kernel_rfl) (by kernel_rfl) ?_
    have LC := fun (u : Lat w1.heap.size w1) => u.cell
    repeat (go_big_quiet_step (fail))
    refine wpQuiet_nil ?_
    intro w2 hw2
    clear LC
    have hb2 := b1.trans (hw2.mono b1.size)
    go_wp2
    rw [W1.out, W2.out]
    go_ret2
    exact ⟨ret_ii rfl rfl, hb2⟩

theorem l1Most_any (a b : Int) (w : World) : Calls Tryd.prog 61 #[.int .i64 a, .int .i64 b] w (RetS (.int .i64 (max a b)) w) := by
  by_cases h : b < a
  · have HE := Lib.hid (show max a b = a by omega)
    go_enter Tryd.func61, Tryd.ntmps61
    go_wp2
    go_ret
    exact ⟨ret_int HE.out.symm, rfl⟩
  · have HE := Lib.hid (show max a b = b by omega)
    go_enter Tryd.func61, Tryd.ntmps61
    go_wp2
    go_ret
    exact ⟨ret_int HE.out.symm, rfl⟩
set_option maxHeartbeats 1000000 in
theorem l2Reduce_any (a b : Nat) (w : World) (ha : a ≤ 1000000000000) (hb : b ≤ 1000000000000) (hb0 : 0 < b) : Calls Tryd.prog 37 #[.int .i64 a, .int .i64 b] w (RetQ a b w) := by
  have C := Lib.hid (fun w => l1Most_any (a : Int) (-(a : Int)) w)
  rw [show max (a : Int) (-(a : Int)) = a by omega] at C
  have hd : 0 < Nat.gcd a b := Nat.gcd_pos_of_pos_right a hb0
  unfold RetQ
  obtain ⟨d, hdd⟩ : ∃ d, d = Nat.gcd a b := ⟨_, rfl⟩
  rw [← hdd] at hd ⊢
  have HD := Lib.hid hdd
  clear hdd
  have q1 : a / d ≤ a := Nat.div_le_self _ _
  have q2 : b / d ≤ b := Nat.div_le_self _ _
  have W1 : Hid (wrap64 ((a : Int) / (d : Int)) = ((a / d : Nat) : Int)) := Lib.hid (by rw [← Int.natCast_ediv]; exact wrap_small _ (by omega))
  have W2 : Hid (wrap64 ((b : Int) / (d : Int)) = ((b / d : Nat) : Int)) := Lib.hid (by rw [← Int.natCast_ediv]; exact wrap_small _ (by omega))
  go_enter Tryd.func37, Tryd.ntmps37
  go_wp2_with fail
  refine (C.out _).mono ?_
  rintro e w1 ⟨rfl, rfl⟩
  go_wp2_with fail
  go_loopw [6, 7, 8] (fun p q _ wr => ∃ (x y : Nat), p = .int .i64 x ∧ q = .int .i64 y ∧ x ≤ 1000000000000 ∧ y ≤ 1000000000000 ∧ Nat.gcd x y = d ∧ Below w.heap.size w wr) (fun _ q _ _ => (intOf q).toNat)
  case atStart => exact ⟨a, b, rfl, rfl, ha, hb, HD.out.symm, Below.refl _ _⟩
  case round =>
    obtain ⟨x, y, rfl, rfl, hx, hy, hrel, hbb⟩ := hrel
    have HR := Lib.hid hrel
    clear hrel
    by_cases h0 : y = 0
    · subst h0
      obtain rfl : x = d := by rw [← HR.out, Nat.gcd_zero_right]
      have e0 : ((x : Int) == 0) = false := by simp; omega
      have e2 : ¬ (x : Int) = 0 := by omega
      have e3 : ¬ x = 0 := by omega
      go_wp2_with fail
      refine wp_region_lat wr.heap.size (by kernel_rfl) (by kernel_rfl) ?_
      have LC := fun (u : Lat wr.heap.size wr) => u.cell
      repeat (go_big_quiet_step (fail))
      refine wpQuiet_nil ?_
      intro w2 hw2
      clear LC
      have hb2 := hbb.trans (hw2.mono hbb.size)
      go_wp2
      try rw [W1.out, W2.out]
      go_ret2
      exact ⟨ret_ii (by first | rfl | exact W1.out) (by first | rfl | exact W2.out), hb2⟩
    · have e0 : ((y : Int) == 0) = false := by simp; omega
      have e1 : ((y : Int) != 0) = true := by simp; omega
      have e2 : ¬ (y : Int) = 0 := by omega
      have e3 : ¬ y = 0 := h0
      have hlt : x % y < y := Nat.mod_lt _ (by omega)
      go_wp2
      go_roundw
      case rel => exact ⟨y, x % y, rfl, by rw [Int.natCast_emod], hy, by omega, by rw [← HR.out, Nat.gcd_comm x y, Nat.gcd_rec y x, Nat.gcd_comm], hbb⟩
      case measure => simp [intOf]; omega
end Go.Proofs.YtehohkdipfphmaaDoor
