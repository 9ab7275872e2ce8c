/- SaleText: the reference's and the program's. -/
import Derived.Test.YtoijpemmcnmbeaaDoorDAuc
import Derived.Test.YtoijpemmcnmbeaaDoorDNum
import Derived.Deep.RegionWith
import Derived.Deep.RegionHeld3
namespace Go.Proofs.YtoijpemmcnmbeaaDoor
set_option linter.unusedVariables false
set_option linter.unusedSimpArgs false
open Go.RowKit

def saleW (c : Int) : ByteArray := if c = 0 then (⟨#[119, 97, 105, 116, 115]⟩ : ByteArray) else if c = 1 then (⟨#[111, 112, 101, 110]⟩ : ByteArray) else if c = 2 then (⟨#[115, 111, 108, 100]⟩ : ByteArray) else (⟨#[112, 97, 115, 115, 101, 100]⟩ : ByteArray)
def slS (x : R5) : ByteArray := (((⟨#[108, 111, 116, 32]⟩ : ByteArray) ++ numT x.a.toNat) ++ (⟨#[32]⟩ : ByteArray)) ++ saleW x.c
def slT (x : R5) : ByteArray := if x.d = 0 then slS x else (((slS x ++ (⟨#[32]⟩ : ByteArray)) ++ numT x.d.toNat) ++ (⟨#[32, 98, 121, 32]⟩ : ByteArray)) ++ numT x.e.toNat
def slV (x : R5) : ByteArray := if lotB x = true then slT x else ⟨#[]⟩
theorem sz4 (A B C D : ByteArray) : (((A ++ B) ++ C) ++ D).size = A.size + B.size + C.size + D.size := by simp only [ByteArray.size_append]

theorem gen9 {p : World → Prop} {w1 W : World} (hb : Below w1.heap.size w1 W) (h : ∀ W', Below w1.heap.size w1 W' → p W') : p W := h W hb
/-- The call returns v and does nothing to the world but draw orders. -/
def RetD (v : Value) (W : World) : Ending → World → Prop := fun e w' => e = .returned v ∧ ∃ k, w' = W.drewN k
def DLat (w0 : World) := { u : World // ∃ k, u = w0.drewN k }
def DLat.w {w0 : World} (u : DLat w0) : World := u.1
instance {w0 : World} : Nonempty (DLat w0) := ⟨⟨w0.drewN 0, 0, rfl⟩⟩
theorem DLat.cell {w0 : World} (u : DLat w0) (p : Addr) : u.w.cell? p = w0.cell? p := by
  obtain ⟨_, k, rfl⟩ := u; rfl
theorem drewN_drewN (w : World) (i k : Nat) : (w.drewN i).drewN k = w.drewN (i + k) := by
  simp [World.drewN, Nat.add_assoc]
theorem wp_region_dlat {P : Program} {id : Nat} {Q : Exit → Act → World → Prop} {a : Act} {w : World} {l : List Oper} (hm : P.follows .mixedOrders = true) (hB : Region.lexB .any l.toArray = true)
    (h : wpQuiet P l.toArray (fun w' => ∃ u : DLat w, w' = u.w) (fun a' => ∀ w', (∃ k, w' = w.drewN k) → Q .normal a' w') l a) : (Code.region id l.toArray true).wp P Q a w :=
  wp_region_quiet (C := fun w' => ∃ u : DLat w, w' = u.w) hm hB ⟨⟨w.drew, 1, rfl⟩, rfl⟩ (by
    have e : (fun a' => ∀ w', (∃ k, w' = w.drewN k) → Q .normal a' w') = (fun a' => ∀ w', (∃ u : DLat w, w' = u.w) → Q .normal a' w') := by
      funext a'
      apply propext
      constructor
      · rintro h w' ⟨u, rfl⟩; exact h _ u.2
      · intro h w' hb; exact h w' ⟨⟨w', hb⟩, rfl⟩
    rw [e] at h
    simpa using h)
theorem dlat_call {P : Program} {f : FuncId} {args : Array Value} {w0 : World} {v : Value} (u : DLat w0) (h : Calls P f args u.w (RetD v u.w)) :
    Calls P f args u.w fun e w'' => e = .returned v ∧ ∃ u' : DLat w0, w'' = u'.w :=
  h.mono fun _ w'' hh => ⟨hh.1, by
    obtain ⟨v0, i, hi⟩ := u
    obtain ⟨k, hk⟩ := hh.2
    exact ⟨⟨w'', i + k, by rw [hk]; show (DLat.w ⟨v0, i, hi⟩).drewN k = _; rw [show DLat.w ⟨v0, i, hi⟩ = v0 from rfl, hi, drewN_drewN]⟩, rfl⟩⟩
set_option maxHeartbeats 1000000 in
theorem l1NumD : ∀ (n : Nat) (w : World), n ≤ 1000000000000 → Calls Tryd.prog 12 #[.int .i64 n] w (RetD (.string (numT n)) w) := by
  intro n
  induction n using Nat.strongRecOn with
  | _ n ih =>
    intro w hn
    by_cases h10 : n < 10
    · have hE : numT n = (⟨#[48, 49, 50, 51, 52, 53, 54, 55, 56, 57]⟩ : ByteArray).extract n (n + 1) := by rw [dig_ext h10, numT, Lib.decDigits, dif_pos h10]
      have q0 : (0 : Int) ≤ (n : Int) := by omega
      have q1 : (n : Int) ≤ (n : Int) + 1 := by omega
      have q2 : (n : Int) + 1 ≤ 10 := by omega
      have f0 : decide ((n : Int) < 0) = false := by simp
      have f1 : decide ((n : Int) < 10) = true := by simp; omega
      go_enter Tryd.func12, Tryd.ntmps12
      go_wp2
      go_ret
      exact ⟨by rw [hE]; rfl, 0, rfl⟩
    · have q0 : (0 : Int) ≤ (n : Int) := by omega
      have q3 : (0 : Int) ≤ (n : Int) % 10 := by omega
      have q4 : (n : Int) % 10 ≤ (n : Int) % 10 + 1 := by omega
      have q5 : (n : Int) % 10 + 1 ≤ 10 := by omega
      have f0 : decide ((n : Int) < 0) = false := by simp
      have f1 : decide ((n : Int) < 10) = false := by simp; omega
      obtain ⟨T, hT⟩ : ∃ T, T = numT (n / 10) := ⟨_, rfl⟩
      have hTs : T.size ≤ 13 := by rw [hT]; exact numT_size (by omega)
      have C : Hid (∀ w, Calls Tryd.prog 12 #[.int .i64 ((n : Int) / 10)] w (RetD (.string T) w)) := Lib.hid (fun w => by
        have := ih (n / 10) (by omega) w (by omega)
        rw [show (((n / 10 : Nat)) : Int) = (n : Int) / 10 by omega, ← hT] at this
        exact this)
      have q6 : n % 10 < 10 := by omega
      have HE : Hid (numT n = T ++ (⟨#[48, 49, 50, 51, 52, 53, 54, 55, 56, 57]⟩ : ByteArray).extract (n % 10) (n % 10 + 1)) := Lib.hid (by
        rw [dig_ext q6, hT, numT, numT, ByteArray.mk_append_mk]
        conv => lhs; rw [Lib.decDigits, dif_neg h10])
      have hXs : ((⟨#[48, 49, 50, 51, 52, 53, 54, 55, 56, 57]⟩ : ByteArray).extract (n % 10) (n % 10 + 1)).size = 1 := by rw [dig_ext q6]; rfl
      clear hT
      go_enter Tryd.func12, Tryd.ntmps12
      go_wp2_with fail
      refine wp_region_dlat (by kernel_rfl) (by kernel_rfl) ?_
      have LC := fun (u : DLat w) => u.cell
      repeat (go_big_quiet_step ((go_at_call 12; (with_reducible exact dlat_call _ (C.out _)))))
      refine wpQuiet_nil ?_
      intro w4 hw4
      clear LC
      go_wp2
      go_ret
      exact ⟨by rw [HE.out]; rfl, hw4⟩

end Go.Proofs.YtoijpemmcnmbeaaDoor
