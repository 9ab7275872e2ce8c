/- Approvals: marks of texts. -/
import Derived.Test.YtaobhehjoijpiaaAppO
import Derived.Test.YtaobhehjoijpiaaAppN
namespace Go.Proofs.Ytaobhehjoijpiaa
set_option linter.unusedVariables false
set_option linter.unusedSimpArgs false
open Go.RowKit

/-- The digits of a number, ahead of a text. -/
def digsV : Nat → Nat → List UInt8 → List UInt8
  | 0, _, s => s
  | f + 1, k, s => if k = 0 then s else digsV f (k / 10) ((48 + k % 10).toUInt8 :: s)
/-- The text of a mark. -/
def tmV (k : Int) : ByteArray := if k ≤ 0 then ⟨#[109, 48]⟩ else ⟨(109 :: digsV k.toNat k.toNat []).toArray⟩
theorem digsV_fuel : ∀ (k f g : Nat) (s : List UInt8), k ≤ f → k ≤ g → digsV f k s = digsV g k s := by
  intro k
  induction k using Nat.strongRecOn with
  | _ k ih =>
    intro f g s hf hg
    rcases Nat.eq_zero_or_pos k with rfl | hk
    · cases f <;> cases g <;> simp [digsV]
    · obtain ⟨f, rfl⟩ : ∃ f', f = f' + 1 := ⟨f - 1, by omega⟩
      obtain ⟨g, rfl⟩ : ∃ g', g = g' + 1 := ⟨g - 1, by omega⟩
      simp only [digsV]
      rw [if_neg (by omega), if_neg (by omega)]
      have := Nat.div_lt_self hk (show 1 < 10 by omega)
      exact ih _ this _ _ _ (by omega) (by omega)

set_option maxHeartbeats 1000000 in
set_option maxRecDepth 20000 in
theorem markText_any (k0 : Int) (w : World) (h1 : k0 ≤ 1000000000000) (h0 : 0 ≤ k0) : Calls Try.prog 62 #[.int .i64 k0] w (Ret (.string (tmV k0)) w) := by
  by_cases hz : k0 ≤ 0
  · have HE := Lib.hid (show tmV k0 = ⟨#[109, 48]⟩ by rw [tmV, if_pos hz])
    go_enter Try.func62, Try.ntmps62
    go_wp2
    go_ret
    exact ⟨by rw [HE.out]; rfl, Below.refl _ _⟩
  · have HE := Lib.hid (show tmV k0 = ⟨(109 :: digsV k0.toNat k0.toNat []).toArray⟩ by rw [tmV, if_neg hz])
    go_enter Try.func62, Try.ntmps62
    go_wp2_with fail
    go_loopw [0, 3] (fun p q wr => ∃ (k m : Nat) (s : List UInt8) (T : ByteArray), p = .int .i64 k ∧ q = .string T ∧ T = ⟨s.toArray⟩ ∧ m + s.length ≤ 13 ∧ k < 10 ^ m ∧ digsV k k s = digsV k0.toNat k0.toNat [] ∧ Below w.heap.size w wr) (fun p _ _ => (intOf p).toNat)
    case atStart =>
      have h13 : (10 : Nat) ^ 13 = 10000000000000 := by decide
      exact ⟨k0.toNat, 13, [], ⟨#[]⟩, by rw [Int.toNat_of_nonneg h0], rfl, rfl, by simp, by omega, rfl, Below.refl _ _⟩
    case round =>
      obtain ⟨k, m, s, T, rfl, rfl, hT, hm, hk, hrel, hb⟩ := hrel
      have HR := Lib.hid hrel
      have hTz : T.size = s.length := by rw [hT]; simp [ByteArray.size]
      have hTs : (T.size : Int) ≤ 13 := by omega
      have HT := Lib.hid hT
      have hk2 : (k : Int) ≤ 10000000000000 := by
        have h2 : (10 : Nat) ^ m ≤ 10 ^ 13 := Nat.pow_le_pow_right (by omega) (by omega)
        have : (10 : Nat) ^ 13 = 10000000000000 := by decide
        omega
      have HK := Lib.hid hk
      have hb2 := hb
      clear hrel hT hk
      by_cases hk0 : 0 < k
      · have e0 : decide ((0 : Int) < (k : Int)) = true := by simp; omega
        obtain ⟨m, rfl⟩ : ∃ m', m = m' + 1 := ⟨m - 1, by
          rcases Nat.eq_zero_or_pos m with e | e
          · subst e; have := HK.out; simp at this; omega
          · omega⟩
        have hcv := run_convert_bytes_arg (P := Try.prog) (wr.alloc (.cells #[.int .u8 (48 + (k : Int) % 10)] 5)) 50 5 Try.underlying50 Try.underlying5 wr.heap.size 0 1 1 [48 + (k : Int) % 10] rfl (fun i hi => by
          obtain rfl : i = 0 := by omega
          exact World.cell?_alloc_at _ _ _ _ rfl) 9 Try.underlying9
        obtain ⟨D, hD⟩ : ∃ D, D = strOfNums [48 + (k : Int) % 10] := ⟨_, rfl⟩
        have hDz : D.size = 1 := by rw [hD, strOfNums_size]; rfl
        rw [← hD] at hcv
        have HDT := Lib.hid (show D ++ T = ⟨((48 + k % 10).toUInt8 :: s).toArray⟩ by
          rw [hD, HT.out, strOfNums]
          have : (48 + (k : Int) % 10).toNat = 48 + k % 10 := by omega
          simp only [List.map_cons, List.map_nil, this]
          rw [ByteArray.mk_append_mk]
          simp [Nat.toUInt8])
        have HST := Lib.hid (show digsV (k / 10) (k / 10) ((48 + k % 10).toUInt8 :: s) = digsV k0.toNat k0.toNat [] by
          rw [← HR.out]
          obtain ⟨j, rfl⟩ : ∃ j, k = j + 1 := ⟨k - 1, by omega⟩
          rw [show digsV (j + 1) (j + 1) s = digsV j ((j + 1) / 10) ((48 + (j + 1) % 10).toUInt8 :: s) by simp only [digsV]; rw [if_neg (by omega)]]
          exact digsV_fuel _ _ _ _ (Nat.le_refl _) (by omega))
        have HK10 := Lib.hid (show k / 10 < 10 ^ m by have := HK.out; rw [Nat.pow_succ] at this; omega)
        clear hD
        go_wp2
        go_roundw
        case rel => exact ⟨k / 10, m, (48 + k % 10).toUInt8 :: s, D ++ T, by go_num, rfl, HDT.out, by simp only [List.length_cons]; omega, HK10.out, HST.out, hb.alloc hb.size _⟩
        case measure => simp [intOf]; omega
      · obtain rfl : k = 0 := by omega
        have HS := Lib.hid (show digsV k0.toNat k0.toNat [] = s by rw [← HR.out]; rfl)
        have HF := Lib.hid (show (⟨#[109]⟩ : ByteArray) ++ T = tmV k0 by rw [HE.out, HS.out, HT.out, ByteArray.mk_append_mk]; simp)
        go_wp2
        go_ret
        exact ⟨by rw [← HF.out]; rfl, hb⟩
end Go.Proofs.Ytaobhehjoijpiaa
