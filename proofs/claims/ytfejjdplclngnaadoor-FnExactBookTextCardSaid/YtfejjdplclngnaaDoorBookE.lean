/- The stock book: comparison, and the numbers that a list holds. -/
import Derived.Test.YtfejjdplclngnaaDoorBook
namespace Go.Proofs.YtfejjdplclngnaaDoor
set_option linter.unusedVariables false
set_option linter.unusedSimpArgs false
open Go.RowKit

set_option maxHeartbeats 1000000 in
theorem eqBookRow_same (id : Int) (A B : Option Addr) (n c d : Nat) (ws : List Int) (w : World) (hn : ws.length = n) (hA : Rd w A (cells1 ws)) (hB : Rd w B (cells1 ws)) (h20 : n ≤ 1048576) :
    Calls Tryd.prog 48 #[.agg #[.int .i64 id, .slice A n c], .agg #[.int .i64 id, .slice B n d]] w (Ret (.bool true) w) := by
  have C0 := Lib.hid (fun w h1 h2 => eqIntS_same A B n c d ws w hn h1 h2 h20)
  have HA := Lib.hid hA
  have HB := Lib.hid hB
  clear hA hB hn h20
  go_enter Tryd.func48, Tryd.ntmps48
  go_wp2_with fail
  refine (C0.out _ ((HA.out.alloc _).alloc _) ((HB.out.alloc _).alloc _)).mono ?_
  rintro e w1 ⟨rfl, b1⟩
  go_wp2
  go_ret
  exact ⟨rfl, (((Below.refl _ _).alloc (Nat.le_refl _) _).alloc (by simp) _).trans (b1.mono (by simp; omega))⟩

set_option maxHeartbeats 1000000 in
theorem eqBookRowS_same (A B : Option Addr) (n c d : Nat) (xs : List BR) (w : World) (hn : xs.length = n) (hA : RdB w A xs) (hB : RdB w B xs) (h20 : n ≤ 1048576) (hw : ∀ x ∈ xs, x.ws.length ≤ 1048576) :
    Calls Tryd.prog 26 #[.slice A n c, .slice B n d] w (Ret (.bool true) w) := by
  go_enter Tryd.func26, Tryd.ntmps26
  go_wp2_with fail
  go_loopw [4, 5] (fun r i wr => ∃ k : Nat, k ≤ n ∧ i = .int .i64 k ∧ r = .bool false ∧ Below w.heap.size w wr) (fun _ i _ => n - (intOf i).toNat)
  case atStart => exact ⟨0, Nat.zero_le _, rfl, rfl, Below.refl _ _⟩
  case round =>
    obtain ⟨k, hk, rfl, rfl, hb⟩ := hrel
    by_cases hlt : k < n
    · obtain ⟨x, hxk⟩ : ∃ x, xs[k]? = some x := ⟨xs[k], List.getElem?_eq_getElem (by omega)⟩
      have hwl : x.ws.length ≤ 1048576 := hw x (List.mem_of_getElem? hxk)
      obtain ⟨g, o, P, cp, rfl, hg, c0, c1, -, -, hP⟩ := (hA.below hb).at hxk
      obtain ⟨g', o', Q, cq, rfl, hg', d0, d1, -, -, hQ⟩ := (hB.below hb).at hxk
      have C0 := Lib.hid (fun w h1 h2 => eqBookRow_same x.id P Q x.ws.length cp cq x.ws w rfl h1 h2 hwl)
      have HP := Lib.hid hP
      have HQ := Lib.hid hQ
      clear hA hB hxk hP hQ hwl
      go_wp2_with fail
      refine wp_region_lat wr.heap.size (by kernel_rfl) (by kernel_rfl) ?_
      have LC := fun (u : Lat wr.heap.size wr) => u.cell
      repeat (go_big_quiet_step ((go_at_call 48; exact lat_call _ (Nat.le_refl _) (C0.out _ (HP.out.below (Lat.below _)) (HQ.out.below (Lat.below _))))))
      refine wpQuiet_nil ?_
      intro w1 hb1
      clear LC
      go_wp2
      go_roundw
      case rel => exact ⟨k + 1, by omega, by go_num, rfl, hb.trans (hb1.mono hb.size)⟩
      case measure => simp [intOf]; omega
    · go_wp2
      go_ret
      exact ⟨rfl, hb⟩
end Go.Proofs.YtfejjdplclngnaaDoor
