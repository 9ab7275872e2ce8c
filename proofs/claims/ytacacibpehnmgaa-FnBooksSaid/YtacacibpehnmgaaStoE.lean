/- Stock book: whether a stamp has room; the tight strip. -/
import Derived.Test.YtacacibpehnmgaaStoD
import Derived.Test.YtacacibpehnmgaaList
namespace Go.Proofs.Ytacacibpehnmgaa
set_option linter.unusedVariables false
set_option linter.unusedSimpArgs false
open Go.RowKit

theorem cells1_snoc (ws : List Int) (x : Int) : cells1 ws ++ [.int .i64 x] = cells1 (ws ++ [x]) := by rw [cells1_append]; rfl

set_option maxHeartbeats 1000000 in
theorem l1Own_any (A : Option Addr) (n c : Nat) (zs : List Int) (w : World) (hn : zs.length = n) (hA : Rd w A (cells1 zs)) (h20 : n ≤ 1048576) :
    Calls Try.prog 35 #[.slice A n c] w (RetOwn 3 1 n (cells1 zs) w) := by
  have HE := Lib.hid (own_empty w w.heap.size 3 1 (Nat.le_refl _))
  have HR := Lib.hid (fun o => hA.alloc o)
  have HL := Lib.hid (show (cells1 zs).length = n * 1 by rw [length_cells1, hn, Nat.mul_one])
  clear hA hn
  go_enter Try.func35, Try.ntmps35
  go_wp2_with (at_builtin; go_must (refine wpList_app _ rfl (.tmp 3) (.tmp 4) 36 rfl w.heap.size 3 _ 1 8 Try.underlying36 infoI rfl (by omega) _ _ _ rfl HE.out _ n c (cells1 zs) rfl HL.out (HR.out _) (oneCell_ints zs) (by unfold maxLen; omega) (by omega) (by simp) ?_); intro v' w' o' g' d')
  go_ret
  refine ⟨_, rfl, by simpa using o', ((Below.refl _ _).alloc (Nat.le_refl _) _).trans (below_app HE.out g' (by simp) (Nat.le_refl _))⟩

set_option maxHeartbeats 1000000 in
theorem l27Room_any (A : Option Addr) (n c : Nat) (ws : List Int) (x : Int) (w : World) (hn : ws.length = n) (hA : Rd w A (cells1 ws)) (h20 : n ≤ 1048576) :
    Calls Try.prog 46 #[.slice A n c, .int .i64 x] w (Ret (.bool (roomB ws x)) w) := by
  have HA := Lib.hid hA
  have HN := Lib.hid hn
  clear hA hn
  go_enter Try.func46, Try.ntmps46
  go_wp2_with fail
  refine (l1Own_any A n c ws _ HN.out HA.out h20).mono ?_
  rintro e w1 ⟨v, rfl, o1, b1⟩
  have HO1 := Lib.hid (fun q => own_below o1 ((Below.refl _ _).alloc (Nat.le_refl _) q))
  have hs1 := b1.size
  have HL := Lib.hid o1
  clear o1
  go_wp2_with (at_builtin; go_must (refine wpList_app _ rfl (.tmp 6) (.tmp 8) 36 rfl w.heap.size 3 _ 1 8 Try.underlying36 infoI rfl (by omega) _ _ _ rfl (HO1.out _) _ 1 1 [.int .i64 x] rfl rfl (rd_new #[.int .i64 x] 3 (by simp)) (oneCell_ints [x]) (by unfold maxLen; omega) (by omega) (by simp; omega) ?_); intro v' w' o' g' d')
  obtain ⟨A', c', rfl⟩ := own_form o'
  rw [cells1_snoc] at o'
  have HB := Lib.hid (b1.trans (((Below.refl w1.heap.size w1).alloc (Nat.le_refl _) _).mono hs1 |>.trans (below_app (HO1.out _) g' (by simp; omega) (Nat.le_refl _))))
  have HO := Lib.hid o'
  clear o' g' d' HO1
  go_wp2_with fail
  refine (l27Row_any A' (n + 1) c' (ws ++ [x]) _ (by have := HN.out; simp; omega) (Rd.of_own HO.out) (by omega)).mono ?_
  rintro e w3 ⟨rfl, rfl⟩
  go_wp2
  go_ret
  exact ⟨rfl, HB.out⟩


/-- How much the tight strip among the first k has, or -1. -/
def mostB (xs : List BR) (t : Int) : Int := if t < 0 then -1 else endV (atB xs t).ws
theorem rows_end {xs : List BR} (h : rowsB xs) {x : BR} (hx : x ∈ xs) : 0 ≤ endV x.ws ∧ endV x.ws ≤ 200 ∧ x.ws.length ≤ 12 ∧ ∀ v ∈ x.ws, wdB v = true := by
  obtain ⟨r1, r2, r3⟩ := rowB_yes (h x hx)
  exact ⟨(endV_bd r1 (by omega)).1, r3, r2, r1⟩
theorem mostB_bd {xs : List BR} (h : rowsB xs) {t : Int} (h1 : -1 ≤ t) (h2 : t < xs.length) : -1 ≤ mostB xs t ∧ mostB xs t ≤ 200 := by
  unfold mostB
  split
  · omega
  · have := rows_end h (atB_mem (by omega) h2).1; omega


end Go.Proofs.Ytacacibpehnmgaa
