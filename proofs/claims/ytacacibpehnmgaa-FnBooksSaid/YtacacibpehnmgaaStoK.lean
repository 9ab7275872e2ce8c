/- Stock book: RemoveStamp. -/
import Derived.Test.YtacacibpehnmgaaStoJ
import Derived.Test.YtacacibpehnmgaaShelf
import Derived.Deep.RegionHeld3
namespace Go.Proofs.Ytacacibpehnmgaa
set_option linter.unusedVariables false
set_option linter.unusedSimpArgs false
open Go.RowKit

/-- The call returns a book in memory of its own, an int, and a Bool. -/
def RetBIB (E EI : Nat) (xs : List BR) (z : Int) (b : Bool) (W : World) : Ending → World → Prop := fun e w' => ∃ v vs, e = .returned (.tuple #[v, .int .i64 z, .bool b]) ∧ OwnB w' W.heap.size E EI v xs vs ∧ Below W.heap.size W w'
def cutV (ws : List Int) (j : Nat) : List Int := ws.take j ++ ws.drop (j + 1)
theorem cutV_len {ws : List Int} {j : Nat} (h : j < ws.length) : (cutV ws j).length = ws.length - 1 := by simp [cutV]; omega
def rmB (xs : List BR) (id i : Int) : Bool := decide (0 ≤ findV xs id) && inR i 0 (((atB xs (findV xs id)).ws.length : Int) - 1)
def rmV (xs : List BR) (id i : Int) : List BR := if rmB xs id i then withV xs (findV xs id) (cutV (atB xs (findV xs id)).ws i.toNat) else []
def rmW (xs : List BR) (id i : Int) : Int := if rmB xs id i then (atB xs (findV xs id)).ws.getD i.toNat 0 else 0
theorem rm_no {xs : List BR} {id i : Int} (h : rmB xs id i = false) : rmV xs id i = [] ∧ rmW xs id i = 0 := by simp [rmV, rmW, h]
theorem rm_ways (xs : List BR) (id i : Int) : (findV xs id = -1 ∧ rmB xs id i = false) ∨
    (bookB xs = true ∧ ∃ (k : Nat) (x : BR), findV xs id = k ∧ k < xs.length ∧ xs[k]? = some x ∧ rowB x.ws = true ∧ inR i 0 ((x.ws.length : Int) - 1) = false ∧ rmB xs id i = false) ∨
    (bookB xs = true ∧ ∃ (k : Nat) (x : BR) (j : Nat) (z : Int), findV xs id = k ∧ k < xs.length ∧ xs[k]? = some x ∧ rowB x.ws = true ∧ i = (j : Int) ∧ x.ws[j]? = some z ∧ j < x.ws.length ∧ inR i 0 ((x.ws.length : Int) - 1) = true ∧ rmB xs id i = true ∧
      rmV xs id i = xs.set k ⟨x.id, cutV x.ws j⟩ ∧ rmW xs id i = z) := by
  rcases findV_cases xs id with h | ⟨hv, k, x, h, -, hk, hx, -, hrow⟩
  · exact .inl ⟨h, by simp [rmB, h]⟩
  right
  cases h2 : inR i 0 ((x.ws.length : Int) - 1) with
  | false => exact .inl ⟨hv, k, x, h, hk, hx, hrow, h2, by simp [rmB, h, atB_at hx, h2]⟩
  | true =>
    right
    obtain ⟨i0, i1⟩ := inR_true.1 h2
    obtain ⟨j, rfl⟩ : ∃ j : Nat, i = j := ⟨i.toNat, by omega⟩
    have hj : j < x.ws.length := by omega
    have hB : rmB xs id (j : Int) = true := by simp [rmB, h, atB_at hx, h2]
    refine ⟨hv, k, x, j, x.ws[j], h, hk, hx, hrow, rfl, List.getElem?_eq_getElem hj, hj, h2, hB, ?_, ?_⟩
    · rw [rmV, if_pos hB, h, withV_at (by exact hx)]; rw [atB_at hx]; rfl
    · rw [rmW, if_pos hB, h, atB_at hx]; simp [List.getD, hj]
theorem rm_small (xs : List BR) (id i : Int) : smallB (rmV xs id i) := by
  rcases rm_ways xs id i with ⟨-, hB⟩ | ⟨-, k, x, -, -, -, -, -, hB⟩ | ⟨hv, k, x, j, z, h, hk, hx, hrow, rfl, hz, hj, -, hB, hV, -⟩
  · rw [(rm_no hB).1]; exact smallB_nil
  · rw [(rm_no hB).1]; exact smallB_nil
  · rw [hV, ← withV_at hx]; exact smallB_with (smallB_book hv) (by have := (rowB_yes hrow).2.1; rw [cutV_len hj]; omega)

theorem rd_take1 {w : World} {A : Option Addr} {ws : List Int} (h : Rd w A (cells1 ws)) (k : Nat) : Rd w A (cells1 (ws.take k)) := by
  have e : cells1 ws = cells1 (ws.take k) ++ cells1 (ws.drop k) := by rw [← cells1_append, List.take_append_drop]
  rw [e] at h
  exact Rd.prefix_ h
theorem rd_drop1 {w : World} {g o : Nat} {ws : List Int} (h : Rd w (some ⟨g, o, none⟩) (cells1 ws)) (k : Nat) : Rd w (some ⟨g, o + k, none⟩) (cells1 (ws.drop k)) := by
  rcases h with h | ⟨g', o', e, hg, hc⟩
  · left
    have : ws = [] := by simpa [cells1] using h
    simp [this, cells1]
  · injection e with e
    injection e with e1 e2
    subst e1; subst e2
    refine .inr ⟨g, o + k, rfl, hg, fun j v hv => ?_⟩
    rw [Nat.add_assoc]
    refine hc (k + j) v ?_
    simp only [cells1, List.getElem?_map, List.getElem?_drop] at hv ⊢
    exact hv

set_option maxRecDepth 20000 in
set_option maxHeartbeats 4000000 in
theorem specRemoveStamp_any (A : Option Addr) (n c : Nat) (xs : List BR) (id i : Int) (w : World) (hn : xs.length = n) (hA : RdB w A xs) (h20 : n ≤ 1048576) (hw : ∀ x ∈ xs, x.ws.length ≤ 1048576) :
    Calls Try.prog 17 #[.slice A n c, .int .i64 id, .int .i64 i] w (RetBIB 55 3 (rmV xs id i) (rmW xs id i) (rmB xs id i) w) := by
  have C := Lib.hid (fun w h => l27Find_any A n c xs id w hn h (by omega) (hw1 hw))
  have HA := Lib.hid hA
  rcases rm_ways xs id i with ⟨h, hB⟩ | ⟨-, k, x, h, hk, hx, hrow, hi, hB⟩ | ⟨-, k, x, j, z, h, hk, hx, hrow, rfl, hz, hj, hi, hB, hV, hW⟩
  · rw [h] at C
    rw [(rm_no hB).1, (rm_no hB).2, hB]
    clear h hn hw hA hB
    go_enter Try.func17, Try.ntmps17
    go_wp2_with fail
    refine (C.out _ HA.out).mono ?_
    rintro e w1 ⟨rfl, b1⟩
    have hs1 := b1.size
    go_wp2
    refine bodyPost_ret (v := .tuple #[.slice (some ⟨w1.heap.size, 0, none⟩) 0 0, .int .i64 0, .bool false]) (by simp [results, Try.results17, go_sem]) rfl ?_
    exact ⟨_, [], rfl, ownB_empty _ _ _ _ hs1, b1.alloc hs1 _⟩
  · rw [h] at C
    have C1 := Lib.hid (fun w => l1In_any i 0 ((x.ws.length : Int) - 1) w)
    rw [hi] at C1
    rw [(rm_no hB).1, (rm_no hB).2, hB]
    have HX := Lib.hid hx
    have hkn : k < n := by omega
    have r1 := (rowB_yes hrow).2.1
    clear h hn hw hA hB hx hrow hi hk
    go_enter Try.func17, Try.ntmps17
    go_wp2_with fail
    refine (C.out _ HA.out).mono ?_
    rintro e w1 ⟨rfl, b1⟩
    have hs1 := b1.size
    obtain ⟨g, o, B, cc, rfl, hg, c0, c1, -, -, -⟩ := (HA.out.below b1).at HX.out
    go_wp2_with fail
    refine (C1.out _).mono ?_
    rintro e w2 ⟨rfl, rfl⟩
    go_wp2
    refine bodyPost_ret (v := .tuple #[.slice (some ⟨w1.heap.size, 0, none⟩) 0 0, .int .i64 0, .bool false]) (by simp [results, Try.results17, go_sem]) rfl ?_
    exact ⟨_, [], rfl, ownB_empty _ _ _ _ hs1, b1.alloc hs1 _⟩
  · rw [h] at C
    have C1 := Lib.hid (fun w => l1In_any (j : Int) 0 ((x.ws.length : Int) - 1) w)
    rw [hi] at C1
    rw [hV, hW, hB]
    have HX := Lib.hid hx
    have HZ := Lib.hid hz
    have HN := Lib.hid hn
    have HW := Lib.hid hw
    have HWA := Lib.hid (withV_at (ws := cutV x.ws j) hx)
    have hkn : k < n := by omega
    have r1 := (rowB_yes hrow).2.1
    have HDL := Lib.hid (show (cells1 (x.ws.drop (j + 1))).length = (x.ws.length - (j + 1)) * 1 by rw [length_cells1, List.length_drop]; omega)
    have HTL := Lib.hid (show (x.ws.take j).length = j by rw [List.length_take]; omega)
    have HCL := Lib.hid (cutV_len hj)
    clear h hn hw hA hB hx hrow hi hk hV hW hz
    go_enter Try.func17, Try.ntmps17
    go_wp2_with fail
    refine (C.out _ HA.out).mono ?_
    rintro e w1 ⟨rfl, b1⟩
    have hs1 := b1.size
    obtain ⟨g, o, B, cc, rfl, hg, c0, c1, hc1, hc2, hrd⟩ := (HA.out.below b1).at HX.out
    obtain ⟨gb, ob, rfl, hgb, e0⟩ := hrd.at1 HZ.out
    have HRD := Lib.hid hrd
    have HA1 := Lib.hid (HA.out.below b1)
    have B1 := Lib.hid b1
    clear hrd b1
    unfold maxLen at hc2
    go_wp2_with fail
    refine (C1.out _).mono ?_
    rintro e w2 ⟨rfl, rfl⟩
    have hji : (0 : Int) ≤ (j : Int) := by omega
    have hjl : (j : Int) < (x.ws.length : Int) := by omega
    have hsw : IntKind.i64.wrap ((j : Int) + 1) = (j : Int) + 1 := IntWalk.i64_in _ (by omega)
    have hsn : ((j : Int) + 1).toNat = j + 1 := by omega
    by_cases hjc : j + 1 = cc
    · have k1 : (j : Int) ≤ (cc : Int) := by omega
      have k2 : j ≤ cc := by omega
      have k3 : (0 : Int) ≤ (j : Int) + 1 := by omega
      have k4 : (j : Int) + 1 ≤ (x.ws.length : Int) := by omega
      have k5 : j + 1 ≤ x.ws.length := by omega
      have k6 : ¬ cc = j := by omega
      have k7 : ¬ j = cc := by omega
      have k8 : (cc = j + 1) ↔ True := ⟨fun _ => trivial, fun _ => hjc.symm⟩
      have k8' : (j + 1 = cc) ↔ True := ⟨fun _ => trivial, fun _ => hjc⟩
      have HJC := Lib.hid hjc
      have HLJ := Lib.hid (show x.ws.length = j + 1 by omega)
      have k9 : (x.ws.length : Int) ≤ (cc : Int) := by omega
      clear hjc
      go_wp2_with fail
      go_region_held3 (fun w' => w'.cell? ⟨gb, ob + j, none⟩ = some (.int .i64 z)) (first | go_keep | exact KE3 | exact KE4 | exact KE5) (first
        | (go_at_call 35; (with_reducible refine (l1Own_any (some ⟨gb, ob, none⟩) j cc (x.ws.take j) _ HTL.out ((rd_take1 HRD.out j).drew) (by omega)).mono ?_); rintro e w3 ⟨u, rfl, o3, b3⟩; obtain ⟨Au, cu, rfl⟩ := own_form o3; have KE3 : w3.cell? ⟨gb, ob + j, none⟩ = some (.int .i64 z) := (b3.cell (p := ⟨gb, ob + j, none⟩) hgb).trans e0; have hs3 : w1.heap.size ≤ w3.heap.size := b3.size; have O3 := Lib.hid o3)
        | (go_at_call 37; (with_reducible refine (l27With_any (some ⟨g, o, none⟩) n c xs k A4 _ c4 (cutV x.ws j) _ HN.out (HA1.out.drew.below B34.out) h20 HW.out HCL'.out R4.out (by omega)).mono ?_); rintro e w5 ⟨v5, vs5, rfl, O5, b5⟩; have KE5 : w5.cell? ⟨gb, ob + j, none⟩ = some (.int .i64 z) := (b5.cell (p := ⟨gb, ob + j, none⟩) hgb4).trans KE4)
        | (refine step_app rfl (.tmp 39) (.tmp 43) 36 rfl w1.heap.size 3 _ 1 8 Try.underlying36 infoI rfl (by omega) (.slice Au j cu) j (cells1 (x.ws.take j)) (by simp [Act.eval, Act.put]) (by exact O3.out) (some ⟨gb, ob, none⟩) (x.ws.length - (j + 1)) (cc - (j + 1)) (cells1 (x.ws.drop (j + 1))) (by simp [Act.eval, Act.put]) HDL.out (.inl (by have := HLJ.out; rw [List.drop_eq_nil_of_le (by omega)]; rfl)) (oneCell_ints _) (by unfold maxLen; omega) (by omega) hs3 ?_; intro v4 w4 o4 g4 d4; have B34 := Lib.hid (b3.grown g4 b3.size (fun q hq => (O3.out.lt q hq).1)); have KE4 : w4.cell? ⟨gb, ob + j, none⟩ = some (.int .i64 z) := (B34.out.cell (p := ⟨gb, ob + j, none⟩) hgb).trans e0; obtain ⟨A4, c4, rfl⟩ := own_form o4; have o4' := o4; rw [← cells1_append] at o4'; have R4 := Lib.hid (show Rd w4 A4 (cells1 (cutV x.ws j)) from Rd.of_own o4'); have hgb4 : gb < w4.heap.size := (by have := B34.out.size; show gb < w4.heap.size; exact Nat.lt_of_lt_of_le hgb this); have HCL' := Lib.hid (show (cutV x.ws j).length = j + (x.ws.length - (j + 1)) by rw [HCL.out]; omega); clear o4 o4' g4 d4))
      all_goals go_goals
      all_goals (
        have hb5 := Lib.hid ((B1.out.drew.trans (B34.out.mono hs1)).trans (b5.mono (Nat.le_trans hs1 B34.out.size)))
        have O5' := Lib.hid (O5.mono (Nat.le_trans hs1 B34.out.size))
        clear KE3 KE4 KE5 o3 b3 b5 O5 e0 c0 c1
        go_wp2
        refine bodyPost_ret (v := .tuple #[v5, .int .i64 z, .bool true]) (by simp [results, Try.results17, go_sem]) rfl ?_
        refine ⟨v5, vs5, rfl, ?_, hb5.out⟩
        rw [← HWA.out]; exact O5'.out)
    · have k1 : (j : Int) ≤ (cc : Int) := by omega
      have k2 : j ≤ cc := by omega
      have k3 : (0 : Int) ≤ (j : Int) + 1 := by omega
      have k4 : (j : Int) + 1 ≤ (x.ws.length : Int) := by omega
      have k5 : j + 1 ≤ x.ws.length := by omega
      have k6 : ¬ cc = j := by omega
      have k7 : ¬ j = cc := by omega
      have k8 : ¬ cc = j + 1 := by omega
      have k9 : (x.ws.length : Int) ≤ (cc : Int) := by omega
      go_wp2_with fail
      go_region_held3 (fun w' => w'.cell? ⟨gb, ob + j, none⟩ = some (.int .i64 z)) (first | go_keep | exact KE3 | exact KE4 | exact KE5) (first
        | (go_at_call 35; (with_reducible refine (l1Own_any (some ⟨gb, ob, none⟩) j cc (x.ws.take j) _ HTL.out ((rd_take1 HRD.out j).drew) (by omega)).mono ?_); rintro e w3 ⟨u, rfl, o3, b3⟩; obtain ⟨Au, cu, rfl⟩ := own_form o3; have KE3 : w3.cell? ⟨gb, ob + j, none⟩ = some (.int .i64 z) := (b3.cell (p := ⟨gb, ob + j, none⟩) hgb).trans e0; have hs3 : w1.heap.size ≤ w3.heap.size := b3.size; have O3 := Lib.hid o3; have RD3 := Lib.hid (rd_drop1 (HRD.out.drew.below b3) (j + 1)))
        | (go_at_call 37; (with_reducible refine (l27With_any (some ⟨g, o, none⟩) n c xs k A4 _ c4 (cutV x.ws j) _ HN.out (HA1.out.drew.below B34.out) h20 HW.out HCL'.out R4.out (by omega)).mono ?_); rintro e w5 ⟨v5, vs5, rfl, O5, b5⟩; have KE5 : w5.cell? ⟨gb, ob + j, none⟩ = some (.int .i64 z) := (b5.cell (p := ⟨gb, ob + j, none⟩) hgb4).trans KE4)
        | (refine step_app rfl (.tmp 39) (.tmp 43) 36 rfl w1.heap.size 3 _ 1 8 Try.underlying36 infoI rfl (by omega) (.slice Au j cu) j (cells1 (x.ws.take j)) (by simp [Act.eval, Act.put]) (by exact O3.out) (some ⟨gb, ob + (j + 1), none⟩) (x.ws.length - (j + 1)) (cc - (j + 1)) (cells1 (x.ws.drop (j + 1))) (by simp [Act.eval, Act.put]) HDL.out RD3.out (oneCell_ints _) (by unfold maxLen; omega) (by omega) hs3 ?_; intro v4 w4 o4 g4 d4; have B34 := Lib.hid (b3.grown g4 b3.size (fun q hq => (O3.out.lt q hq).1)); have KE4 : w4.cell? ⟨gb, ob + j, none⟩ = some (.int .i64 z) := (B34.out.cell (p := ⟨gb, ob + j, none⟩) hgb).trans e0; obtain ⟨A4, c4, rfl⟩ := own_form o4; have o4' := o4; rw [← cells1_append] at o4'; have R4 := Lib.hid (show Rd w4 A4 (cells1 (cutV x.ws j)) from Rd.of_own o4'); have hgb4 : gb < w4.heap.size := (by have := B34.out.size; show gb < w4.heap.size; exact Nat.lt_of_lt_of_le hgb this); have HCL' := Lib.hid (show (cutV x.ws j).length = j + (x.ws.length - (j + 1)) by rw [HCL.out]; omega); clear o4 o4' g4 d4))
      all_goals go_goals
      all_goals (
        have hb5 := Lib.hid ((B1.out.drew.trans (B34.out.mono hs1)).trans (b5.mono (Nat.le_trans hs1 B34.out.size)))
        have O5' := Lib.hid (O5.mono (Nat.le_trans hs1 B34.out.size))
        clear KE3 KE4 KE5 o3 b3 b5 O5 e0 c0 c1
        go_wp2
        refine bodyPost_ret (v := .tuple #[v5, .int .i64 z, .bool true]) (by simp [results, Try.results17, go_sem]) rfl ?_
        refine ⟨v5, vs5, rfl, ?_, hb5.out⟩
        rw [← HWA.out]; exact O5'.out)
end Go.Proofs.Ytacacibpehnmgaa
