/- Numerals: the reference's and the library's. -/
import Derived.Test.YtehohkdipfphmaaDoorShelf
import Derived.Test.YtehohkdipfphmaaDoorIn
import Derived.Test.YtehohkdipfphmaaDoorExt
import Derived.Lib.ItoaNum
import Derived.Sort.Grow
import Derived.Deep.Light
namespace Go.Proofs.YtehohkdipfphmaaDoor
set_option linter.unusedVariables false
set_option linter.unusedSimpArgs false
open Go.RowKit Go.Sort

/-- The numeral of a number. -/
def numT (n : Nat) : ByteArray := ⟨(Lib.decDigits n).toArray⟩
theorem dec_len : ∀ (m n : Nat), n < 10 ^ (m + 1) → (Lib.decDigits n).length ≤ m + 1
  | 0, n, h => by
    have : n < 10 := by simpa using h
    rw [Lib.decDigits, dif_pos this]; simp
  | m + 1, n, h => by
    rw [Lib.decDigits]
    split
    · simp
    · have := dec_len m (n / 10) (by rw [Nat.pow_succ] at h; omega)
      simp only [List.length_append, List.length_cons, List.length_nil]; omega
theorem numT_size {n : Nat} (h : n ≤ 1000000000000) : (numT n).size ≤ 13 := by
  have := dec_len 12 n (by have : (10 : Nat) ^ 13 = 10000000000000 := by decide
                           omega)
  show (Lib.decDigits n).toArray.size ≤ 13
  simpa using this
theorem dig_ext : ∀ {n : Nat}, n < 10 → (⟨#[48, 49, 50, 51, 52, 53, 54, 55, 56, 57]⟩ : ByteArray).extract n (n + 1) = ⟨[UInt8.ofNat (48 + n)].toArray⟩ := by
  intro n h
  match n, h with
  | 0, _ => rfl
  | 1, _ => rfl
  | 2, _ => rfl
  | 3, _ => rfl
  | 4, _ => rfl
  | 5, _ => rfl
  | 6, _ => rfl
  | 7, _ => rfl
  | 8, _ => rfl
  | 9, _ => rfl
theorem below_grow {w : World} {k : Nat} {os : Array Obj} : Below w.heap.size w (grow (w.drewN k) os) :=
  ⟨rfl, rfl, rfl, by simp [grow, World.drewN], fun j hj => by rw [heap_grow_old _ _ (by simpa [World.drewN] using hj)]; rfl⟩

set_option maxHeartbeats 1000000 in
theorem itoa_any (n : Nat) (h : n ≤ 1000000000000) (w : World) (ht : Lib.TabIs Tryd.prog w "internal/strconv.uint64pow10" .u64 Lib.pow10Tab) :
    Calls Tryd.prog 48 #[.int .i64 n] w (Ret (.string (numT n)) w) := by
  refine (Tryd.strconv_Itoa n (by omega) (by omega) w ht).mono ?_
  rintro e w' ⟨rfl, k, os, rfl⟩
  refine ⟨?_, below_grow⟩
  have : Lib.itoa (n : Int) = Lib.decDigits n := by rw [Lib.itoa, if_neg (by omega), Int.toNat_natCast]
  rw [this, numT]

set_option maxHeartbeats 1000000 in
theorem l1Num_any : ∀ (n : Nat) (w : World), n ≤ 1000000000000 → Calls Tryd.prog 50 #[.int .i64 n] w (Ret (.string (numT n)) w) := by
  intro n
  induction n using Nat.strongRecOn with
  | _ n ih =>
    intro w hn
    by_cases h10 : n < 10
    · have hE : numT n = (⟨#[48, 49, 50, 51, 52, 53, 54, 55, 56, 57]⟩ : ByteArray).extract n (n + 1) := by rw [dig_ext h10, numT, Lib.decDigits, dif_pos h10]
      have q0 : (0 : Int) ≤ (n : Int) := by omega
      have q1 : (n : Int) ≤ (n : Int) + 1 := by omega
      have q2 : (n : Int) + 1 ≤ 10 := by omega
      have f0 : decide ((n : Int) < 0) = false := by simp
      have f1 : decide ((n : Int) < 10) = true := by simp; omega
      go_enter Tryd.func50, Tryd.ntmps50
      go_wp2
      go_ret
      exact ⟨by rw [hE]; rfl, Below.refl _ _⟩
    · have q0 : (0 : Int) ≤ (n : Int) := by omega
      have q3 : (0 : Int) ≤ (n : Int) % 10 := by omega
      have q4 : (n : Int) % 10 ≤ (n : Int) % 10 + 1 := by omega
      have q5 : (n : Int) % 10 + 1 ≤ 10 := by omega
      have f0 : decide ((n : Int) < 0) = false := by simp
      have f1 : decide ((n : Int) < 10) = false := by simp; omega
      obtain ⟨T, hT⟩ : ∃ T, T = numT (n / 10) := ⟨_, rfl⟩
      have hTs : T.size ≤ 13 := by rw [hT]; exact numT_size (by omega)
      have C : Hid (∀ w, Calls Tryd.prog 50 #[.int .i64 ((n : Int) / 10)] w (Ret (.string T) w)) := Lib.hid (fun w => by
        have := ih (n / 10) (by omega) w (by omega)
        rw [show (((n / 10 : Nat)) : Int) = (n : Int) / 10 by omega, ← hT] at this
        exact this)
      have q6 : n % 10 < 10 := by omega
      have HE : Hid (numT n = T ++ (⟨#[48, 49, 50, 51, 52, 53, 54, 55, 56, 57]⟩ : ByteArray).extract (n % 10) (n % 10 + 1)) := Lib.hid (by
        rw [dig_ext q6, hT, numT, numT, ByteArray.mk_append_mk]
        conv => lhs; rw [Lib.decDigits, dif_neg h10])
      have hXs : ((⟨#[48, 49, 50, 51, 52, 53, 54, 55, 56, 57]⟩ : ByteArray).extract (n % 10) (n % 10 + 1)).size = 1 := by rw [dig_ext q6]; rfl
      clear hT
      go_enter Tryd.func50, Tryd.ntmps50
      go_wp2_with fail
      refine wp_region_lat w.heap.size (by kernel_rfl) (by kernel_rfl) ?_
      have LC := fun (u : Lat w.heap.size w) => u.cell
      repeat (go_big_quiet_step ((go_at_call 50; (with_reducible exact lat_call _ (Nat.le_refl _) (C.out _)))))
      refine wpQuiet_nil ?_
      intro w4 hw4
      clear LC
      go_wp2
      go_ret
      exact ⟨by rw [HE.out]; rfl, hw4⟩
end Go.Proofs.YtehohkdipfphmaaDoor
