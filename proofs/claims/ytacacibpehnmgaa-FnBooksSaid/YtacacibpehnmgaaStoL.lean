/- Stock book: RemoveStamp of the program. -/
import Derived.Test.YtacacibpehnmgaaStoK
namespace Go.Proofs.Ytacacibpehnmgaa
set_option linter.unusedVariables false
set_option linter.unusedSimpArgs false
open Go.RowKit

/-- The first m elements of a row of the call's own. -/
theorem own_prefix {w : World} {base e g n c m : Nat} {xs ys : List Value} (h : w.ownsRow base e 1 (.slice (some ⟨g, 0, none⟩) n c) n (xs ++ ys)) (hm : xs.length = m) (hmn : m ≤ n) : w.ownsRow base e 1 (.slice (some ⟨g, 0, none⟩) m c) m xs := by
  obtain ⟨h1, h2⟩ := h
  refine ⟨by omega, ?_⟩
  rcases h2 with ⟨h', h0⟩ | ⟨g', cap, cur, h', hg, hh, hnc, hcm, hsz, ht⟩
  · simp at h'
  · injection h' with e1 e2 e3
    injection e1 with e1
    injection e1 with e1
    subst e1; subst e3
    refine .inr ⟨g, c, cur, rfl, hg, hh, by omega, hcm, hsz, ?_⟩
    have h3 := congrArg (List.take (m * 1)) ht
    rw [List.take_take, show min (m * 1) (n * 1) = m * 1 by omega] at h3
    rw [h3, List.take_append_of_le_length (by omega), List.take_of_length_le (by omega)]

/-- slices.Delete of one element of a row of the call's own. -/
def RetDel (lo EI g c m : Nat) (ws : List Int) (W : World) : Ending → World → Prop := fun e w' => e = .returned (.slice (some ⟨g, 0, none⟩) m c) ∧ w'.ownsRow lo EI 1 (.slice (some ⟨g, 0, none⟩) m c) m (cells1 ws) ∧ W.grownBy w' (some g)
theorem delete1_any (lo g n c j : Nat) (ws : List Int) (w : World) (ho : w.ownsRow lo 3 1 (.slice (some ⟨g, 0, none⟩) n c) n (cells1 ws)) (hn : ws.length = n) (hj : j < n) :
    Calls Try.prog 38 #[.slice (some ⟨g, 0, none⟩) n c, .int .i64 j, .int .i64 ((j : Int) + 1)] w (RetDel lo 3 g c (n - 1) (cutV ws j) w) := by
  have hcap : n ≤ c ∧ c ≤ maxLen := by
    rcases ho.2 with ⟨h', _⟩ | ⟨g', cap, cur, h', _, _, hnc, hcm, _⟩
    · simp at h'
    · injection h' with _ _ e3; subst e3; exact ⟨hnc, hcm⟩
  unfold maxLen at hcap
  have h := Try.slices_Delete_int_cells g 0 n c j (j + 1) ws w (by omega) hcap.1 (by omega) (by omega) (by omega) (fun q hq => by
    rw [Nat.zero_add, ho.cellAt q (by omega)]; simp [cells1, List.getD, hq]) (fun q hq => by rw [Nat.zero_add]; exact ho.frozenAt q)
  rw [show ((j + 1 : Nat) : Int) = (j : Int) + 1 by omega] at h
  have hl : ws.take n = ws := List.take_of_length_le (by omega)
  rw [hl] at h
  refine h.mono ?_
  rintro e w' ⟨rfl, q, rfl⟩
  have hodr : (w.drewN q).ownsRow lo 3 1 (.slice (some ⟨g, 0, none⟩) n c) n (cells1 ws) := ho
  obtain ⟨h1, h2⟩ := own_setCells ((ws.take j ++ ws.drop (j + 1) ++ List.replicate (j + 1 - j) 0).map (Value.int .i64)) hodr 0
  have hset := setAll_mid ((ws.take j ++ ws.drop (j + 1) ++ List.replicate (j + 1 - j) 0).map (Value.int .i64)) [] (cells1 ws) [] (by simp [cells1]; omega)
  simp only [List.nil_append, List.append_nil, List.length_nil] at hset
  rw [hset] at h1
  refine ⟨by rw [show j + 1 - j = 1 by omega], ?_, ⟨h2.os, h2.tape, h2.output, h2.size, h2.block⟩⟩
  refine own_prefix (ys := cells1 [0]) (n := n) ?_ (by rw [length_cells1, cutV_len (by omega)]; omega) (by omega)
  have hcs : cells1 (cutV ws j) ++ cells1 [0] = (ws.take j ++ ws.drop (j + 1) ++ List.replicate (j + 1 - j) 0).map (Value.int .i64) := by
    rw [← cells1_append, show j + 1 - j = 1 by omega]; rfl
  rw [hcs]
  exact h1

set_option maxRecDepth 20000 in
set_option maxHeartbeats 4000000 in
theorem implRemoveStamp_any (A : Option Addr) (n c : Nat) (xs : List BR) (id i : Int) (w : World) (hn : xs.length = n) (hA : RdB w A xs) (h20 : n ≤ 1048576) (hw : ∀ x ∈ xs, x.ws.length ≤ 1048576) :
    Calls Try.prog 9 #[.slice A n c, .int .i64 id, .int .i64 i] w (RetBIB 55 3 (rmV xs id i) (rmW xs id i) (rmB xs id i) w) := by
  have C0 := Lib.hid (fun w h => stripAt_any A n c xs id w hn h (by omega))
  have C := Lib.hid (fun w h => isStockBook_any A n c xs w hn h (by omega) (hw1 hw))
  have HA := Lib.hid hA
  cases hv : bookB xs with
  | false =>
    have hB : rmB xs id i = false := by simp [rmB, findV, hv]
    rw [hv] at C
    rw [(rm_no hB).1, (rm_no hB).2, hB]
    obtain ⟨q, hq⟩ : ∃ q, q = idxV (hasId id) xs := ⟨_, rfl⟩
    rw [← hq] at C0
    clear hv hq hn hw hA hB
    go_enter Try.func9, Try.ntmps9
    go_wp2_with fail
    refine (C0.out _ HA.out).mono ?_
    rintro e w1 ⟨rfl, b1⟩
    go_wp2_with fail
    refine (C.out _ (HA.out.below b1)).mono ?_
    rintro e w2 ⟨rfl, b2⟩
    go_wp2
    refine bodyPost_ret (v := .tuple #[.slice none 0 0, .int .i64 0, .bool false]) (by simp [results, Try.results9, go_sem]) rfl ?_
    exact ⟨_, [], rfl, ownB_nil _ _ _ _, b1.trans (b2.mono b1.size)⟩
  | true =>
    rw [hv] at C
    have hf : findV xs id = idxV (hasId id) xs := by simp [findV, hv]
    rcases rm_ways xs id i with ⟨h, hB⟩ | ⟨-, k, x, h, hk, hx, hrow, hi, hB⟩ | ⟨-, k, x, j, z, h, hk, hx, hrow, rfl, hz, hj, hi, hB, hV, hW⟩
    · rw [← hf, h] at C0
      rw [(rm_no hB).1, (rm_no hB).2, hB]
      clear hv hf hn hw hA hB h
      go_enter Try.func9, Try.ntmps9
      go_wp2_with fail
      refine (C0.out _ HA.out).mono ?_
      rintro e w1 ⟨rfl, b1⟩
      go_wp2_with fail
      refine (C.out _ (HA.out.below b1)).mono ?_
      rintro e w2 ⟨rfl, b2⟩
      go_wp2
      refine bodyPost_ret (v := .tuple #[.slice none 0 0, .int .i64 0, .bool false]) (by simp [results, Try.results9, go_sem]) rfl ?_
      exact ⟨_, [], rfl, ownB_nil _ _ _ _, b1.trans (b2.mono b1.size)⟩
    · rw [← hf, h] at C0
      have C1 := Lib.hid (fun w => inRange_any i 0 ((x.ws.length : Int) - 1) w)
      rw [hi] at C1
      rw [(rm_no hB).1, (rm_no hB).2, hB]
      have HX := Lib.hid hx
      have hkn : k < n := by omega
      have r1 := (rowB_yes hrow).2.1
      clear hv hf h hn hw hA hB hx hrow hi hk
      go_enter Try.func9, Try.ntmps9
      go_wp2_with fail
      refine (C0.out _ HA.out).mono ?_
      rintro e w1 ⟨rfl, b1⟩
      go_wp2_with fail
      refine (C.out _ (HA.out.below b1)).mono ?_
      rintro e w2 ⟨rfl, b2⟩
      have hb2 := b1.trans (b2.mono b1.size)
      obtain ⟨g, o, B, cc, rfl, hg, c0, c1, -, -, -⟩ := (HA.out.below hb2).at HX.out
      go_wp2_with fail
      refine (C1.out _).mono ?_
      rintro e w3 ⟨rfl, rfl⟩
      go_wp2
      refine bodyPost_ret (v := .tuple #[.slice none 0 0, .int .i64 0, .bool false]) (by simp [results, Try.results9, go_sem]) rfl ?_
      exact ⟨_, [], rfl, ownB_nil _ _ _ _, hb2⟩
    · rw [← hf, h] at C0
      have C1 := Lib.hid (fun w => inRange_any (j : Int) 0 ((x.ws.length : Int) - 1) w)
      rw [hi] at C1
      rw [hV, hW, hB]
      have C4 := Lib.hid (fun w h => copyBook_any A n c xs w hn h h20 hw)
      have HX := Lib.hid hx
      have HZ := Lib.hid hz
      have HN := Lib.hid hn
      have hkn : k < n := by omega
      have r1 := (rowB_yes hrow).2.1
      have HCL := Lib.hid (cutV_len hj)
      clear hv hf h hn hw hA hB hx hrow hi hk hV hW hz
      go_enter Try.func9, Try.ntmps9
      go_wp2_with fail
      refine (C0.out _ HA.out).mono ?_
      rintro e w1 ⟨rfl, b1⟩
      go_wp2_with fail
      refine (C.out _ (HA.out.below b1)).mono ?_
      rintro e w2 ⟨rfl, b2⟩
      have hb2 := b1.trans (b2.mono b1.size)
      obtain ⟨g, o, B, cc, rfl, hg, c0, c1, hc1, hc2, hrd⟩ := (HA.out.below hb2).at HX.out
      obtain ⟨gb, ob, rfl, hgb, e0⟩ := hrd.at1 HZ.out
      have HB2 := Lib.hid hb2
      have hs2 := hb2.size
      clear hrd b1 b2 hb2
      go_wp2_with fail
      refine (C1.out _).mono ?_
      rintro e w3 ⟨rfl, rfl⟩
      go_wp2_with fail
      refine (C4.out _ (HA.out.below HB2.out)).mono ?_
      rintro e w4 ⟨v, vs, rfl, ow, b4⟩
      have hrow := ow.2.1
      rw [HN.out] at hrow
      obtain ⟨Av, cv, rfl⟩ := own_form hrow
      obtain ⟨gg, rfl⟩ := own_somei hrow (by omega)
      obtain ⟨u, hu⟩ : ∃ u, vs[k]? = some u := ⟨vs[k]'(by have := ow.1; have := HN.out; omega), List.getElem?_eq_getElem _⟩
      have hui := ow.2.2.1 k x u HX.out hu
      obtain ⟨Au, cu, rfl⟩ := own_form hui
      obtain ⟨gu, rfl⟩ := own_somei hui (by omega)
      have eu : w4.cell? ⟨gg, k * 2 + 1, none⟩ = some (.slice (some ⟨gu, 0, none⟩) x.ws.length cu) := by rw [hrow.cellAt _ (by omega)]; exact (cellsB_get HX.out hu).2
      have hne := ow.2.2.2.ne (i := 0) (j := k + 1) (by omega) rfl (by simpa using hu)
      have HOW := Lib.hid ow
      have HU := Lib.hid hu
      have HUI := Lib.hid hui
      have HROW := Lib.hid hrow
      have B4 := Lib.hid (HB2.out.trans (b4.mono hs2))
      have x0 : w4.cell? ⟨g, o + k * 2 + 1, none⟩ = some (.slice (some ⟨gb, ob, none⟩) x.ws.length cc) := (b4.cell (p := ⟨g, _, none⟩) hg).trans c1
      have x1 : w4.cell? ⟨gb, ob + j, none⟩ = some (.int .i64 z) := (b4.cell (p := ⟨gb, ob + j, none⟩) hgb).trans e0
      have hs4 := b4.size
      have hgu : w2.heap.size ≤ gu ∧ gu < w4.heap.size := ow.lt (k + 1) _ gu (by simpa using hu) rfl
      have hgg : w2.heap.size ≤ gg ∧ gg < w4.heap.size := ow.lt 0 _ gg rfl rfl
      clear ow hrow hu hui b4 c0 c1 e0
      go_wp2_with fail
      refine (delete1_any _ gu x.ws.length cu j x.ws _ HUI.out rfl hj).mono ?_
      rintro e w5 ⟨rfl, o5, g5⟩
      have hr5 := HROW.out.kept g5 hne
      obtain ⟨z5, y5⟩ : ∃ z, w5.cell? ⟨gg, k * 2 + 1, none⟩ = some z := ⟨_, (hr5.cellAt (k * 2 + 1) (by omega)).trans (List.getElem?_eq_getElem (by rw [hr5.1]; omega))⟩
      have f5 := hr5.frozenAt (k * 2 + 1)
      have HS := Lib.hid (HOW.out.setSlice HN.out HX.out HU.out (ws := cutV x.ws j) (u' := .slice (some ⟨gu, 0, none⟩) (x.ws.length - 1) cu) (by rw [HCL.out]; exact o5) g5 (fun q hq => .inl hq))
      have nu1 : g ≠ gu := by omega
      have nu2 : gb ≠ gu := by omega
      have x2 : w5.cell? ⟨g, o + k * 2 + 1, none⟩ = some (.slice (some ⟨gb, ob, none⟩) x.ws.length cc) := (g5.cell_far ⟨g, o + k * 2 + 1, none⟩ (Nat.lt_of_lt_of_le hg hs4) (fun e => nu1 (by injection e))).trans x0
      have x3 : w5.cell? ⟨gb, ob + j, none⟩ = some (.int .i64 z) := (g5.cell_far ⟨gb, ob + j, none⟩ (Nat.lt_of_lt_of_le hgb hs4) (fun e => nu2 (by injection e))).trans x1
      have B5 := Lib.hid (B4.out.grown g5 (by have := B4.out.size; omega) (fun q hq => by injection hq with hq; have := hgu.1; omega))
      have ng1 : gg ≠ g := by omega
      have ng2 : gg ≠ gb := by omega
      have y2 : (w5.setCell ⟨gg, k * 2 + 1, none⟩ (.slice (some ⟨gu, 0, none⟩) (x.ws.length - 1) cu)).cell? ⟨g, o + k * 2 + 1, none⟩ = some (.slice (some ⟨gb, ob, none⟩) x.ws.length cc) := (World.cell?_setCell_far _ _ _ _ ng1).trans x2
      have y3 : (w5.setCell ⟨gg, k * 2 + 1, none⟩ (.slice (some ⟨gu, 0, none⟩) (x.ws.length - 1) cu)).cell? ⟨gb, ob + j, none⟩ = some (.int .i64 z) := (World.cell?_setCell_far _ _ _ _ ng2).trans x3
      have hs5 : w4.heap.size ≤ w5.heap.size := g5.size
      have hz6 : (w5.setCell ⟨gg, k * 2 + 1, none⟩ (.slice (some ⟨gu, 0, none⟩) (x.ws.length - 1) cu)).heap.size = w5.heap.size := by simp
      have hg6 : g < w5.heap.size := by omega
      have hgb6 : gb < w5.heap.size := by omega
      have B6 := Lib.hid (B5.out.setCell (p := ⟨gg, k * 2 + 1, none⟩) (by show w.heap.size ≤ gg; have := hgg.1; omega) (.slice (some ⟨gu, 0, none⟩) (x.ws.length - 1) cu))
      have hji : (0 : Int) ≤ (j : Int) := by omega
      have hjl : (j : Int) < (x.ws.length : Int) := by omega
      have HZ6 := Lib.hid hz6
      clear o5 g5 hr5 x0 x1 x2 x3 hne hz6
      go_wp2_with fail
      refine wp_region_lat w5.heap.size (by kernel_rfl) (by kernel_rfl) ?_
      have LC := fun (u : Lat w5.heap.size (w5.setCell ⟨gg, k * 2 + 1, none⟩ (.slice (some ⟨gu, 0, none⟩) (x.ws.length - 1) cu))) => u.cell
      repeat (go_big_quiet_step (fail))
      refine wpQuiet_nil ?_
      intro w6 hw6
      clear LC
      go_wp2
      refine bodyPost_ret (v := .tuple #[.slice (some ⟨gg, 0, none⟩) n cv, .int .i64 z, .bool true]) (by simp [results, Try.results9, go_sem]) rfl ?_
      have hw6' : Below (w5.setCell ⟨gg, k * 2 + 1, none⟩ (.slice (some ⟨gu, 0, none⟩) (x.ws.length - 1) cu)).heap.size (w5.setCell ⟨gg, k * 2 + 1, none⟩ (.slice (some ⟨gu, 0, none⟩) (x.ws.length - 1) cu)) w6 := by rw [HZ6.out]; exact hw6
      exact ⟨_, _, rfl, (HS.out.below hw6').mono hs2, B6.out.trans (hw6'.mono B6.out.size)⟩
end Go.Proofs.Ytacacibpehnmgaa
