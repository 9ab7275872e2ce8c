/- Stock book: InsertStamp of the reference. -/
import Derived.Test.YtacacibpehnmgaaStoK
namespace Go.Proofs.Ytacacibpehnmgaa
set_option linter.unusedVariables false
set_option linter.unusedSimpArgs false
open Go.RowKit

def insV (ws : List Int) (j : Nat) (z : Int) : List Int := ws.take j ++ z :: ws.drop j
theorem insV_len {ws : List Int} {j : Nat} (z : Int) (h : j ≤ ws.length) : (insV ws j z).length = ws.length + 1 := by simp [insV]; omega
def isB (xs : List BR) (id i z : Int) : Bool := decide (0 ≤ findV xs id) && (inR i 0 ((atB xs (findV xs id)).ws.length : Int) && rowB (insV (atB xs (findV xs id)).ws i.toNat z))
def isV (xs : List BR) (id i z : Int) : List BR := if isB xs id i z then withV xs (findV xs id) (insV (atB xs (findV xs id)).ws i.toNat z) else []
theorem is_no {xs : List BR} {id i z : Int} (h : isB xs id i z = false) : isV xs id i z = [] := by simp [isV, h]
theorem is_ways (xs : List BR) (id i z : Int) : (findV xs id = -1 ∧ isB xs id i z = false) ∨
    (bookB xs = true ∧ ∃ (k : Nat) (x : BR), findV xs id = k ∧ k < xs.length ∧ xs[k]? = some x ∧ rowB x.ws = true ∧ inR i 0 (x.ws.length : Int) = false ∧ isB xs id i z = false) ∨
    (bookB xs = true ∧ ∃ (k : Nat) (x : BR) (j : Nat), findV xs id = k ∧ k < xs.length ∧ xs[k]? = some x ∧ rowB x.ws = true ∧ i = (j : Int) ∧ j ≤ x.ws.length ∧ inR i 0 (x.ws.length : Int) = true ∧ isB xs id i z = rowB (insV x.ws j z) ∧
      (rowB (insV x.ws j z) = true → isV xs id i z = xs.set k ⟨x.id, insV x.ws j z⟩)) := by
  rcases findV_cases xs id with h | ⟨hv, k, x, h, -, hk, hx, -, hrow⟩
  · exact .inl ⟨h, by simp [isB, h]⟩
  right
  cases h2 : inR i 0 (x.ws.length : Int) with
  | false => exact .inl ⟨hv, k, x, h, hk, hx, hrow, h2, by simp [isB, h, atB_at hx, h2]⟩
  | true =>
    right
    obtain ⟨i0, i1⟩ := inR_true.1 h2
    obtain ⟨j, rfl⟩ : ∃ j : Nat, i = j := ⟨i.toNat, by omega⟩
    have hB : isB xs id (j : Int) z = rowB (insV x.ws j z) := by simp [isB, h, atB_at hx, h2]
    refine ⟨hv, k, x, j, h, hk, hx, hrow, rfl, by omega, h2, hB, fun hr => ?_⟩
    rw [isV, hB, if_pos hr, h, withV_at (by exact hx), atB_at hx]; rfl
theorem is_small (xs : List BR) (id i z : Int) : smallB (isV xs id i z) := by
  rcases is_ways xs id i z with ⟨-, hB⟩ | ⟨-, k, x, -, -, -, -, -, hB⟩ | ⟨hv, k, x, j, h, hk, hx, hrow, rfl, hj, -, hB, hV⟩
  · rw [is_no hB]; exact smallB_nil
  · rw [is_no hB]; exact smallB_nil
  · cases hr : rowB (insV x.ws j z) with
    | false => rw [is_no (by rw [hB]; exact hr)]; exact smallB_nil
    | true => rw [hV hr, ← withV_at hx]; exact smallB_with (smallB_book hv) (by have := (rowB_yes hr).2.1; omega)

set_option maxRecDepth 20000 in
set_option maxHeartbeats 4000000 in
theorem specInsertStamp_any (A : Option Addr) (n c : Nat) (xs : List BR) (id i z : Int) (w : World) (hn : xs.length = n) (hA : RdB w A xs) (h20 : n ≤ 1048576) (hw : ∀ x ∈ xs, x.ws.length ≤ 1048576) :
    Calls Try.prog 7 #[.slice A n c, .int .i64 id, .int .i64 i, .int .i64 z] w (RetBB 55 3 (isV xs id i z) (isB xs id i z) w) := by
  have C := Lib.hid (fun w h => l27Find_any A n c xs id w hn h (by omega) (hw1 hw))
  have HA := Lib.hid hA
  rcases is_ways xs id i z with ⟨h, hB⟩ | ⟨-, k, x, h, hk, hx, hrow, hi, hB⟩ | ⟨-, k, x, j, h, hk, hx, hrow, rfl, hj, hi, hB, hV⟩
  · rw [h] at C
    rw [is_no hB, hB]
    clear h hn hw hA hB
    go_enter Try.func7, Try.ntmps7
    go_wp2_with fail
    refine (C.out _ HA.out).mono ?_
    rintro e w1 ⟨rfl, b1⟩
    have hs1 := b1.size
    go_wp2
    go_ret2
    exact ⟨_, [], rfl, ownB_empty _ _ _ _ hs1, b1.alloc hs1 _⟩
  · rw [h] at C
    have C1 := Lib.hid (fun w => l1In_any i 0 (x.ws.length : Int) w)
    rw [hi] at C1
    rw [is_no hB, hB]
    have HX := Lib.hid hx
    have hkn : k < n := by omega
    have r1 := (rowB_yes hrow).2.1
    clear h hn hw hA hB hx hrow hi hk
    go_enter Try.func7, Try.ntmps7
    go_wp2_with fail
    refine (C.out _ HA.out).mono ?_
    rintro e w1 ⟨rfl, b1⟩
    have hs1 := b1.size
    obtain ⟨g, o, B, cc, rfl, hg, c0, c1, -, -, -⟩ := (HA.out.below b1).at HX.out
    go_wp2_with fail
    refine (C1.out _).mono ?_
    rintro e w2 ⟨rfl, rfl⟩
    go_wp2
    go_ret2
    exact ⟨_, [], rfl, ownB_empty _ _ _ _ hs1, b1.alloc hs1 _⟩
  · rw [h] at C
    have C1 := Lib.hid (fun w => l1In_any (j : Int) 0 (x.ws.length : Int) w)
    rw [hi] at C1
    have hno := fun h => is_no (xs := xs) (id := id) (i := (j : Int)) (z := z) h
    obtain ⟨V, hVV⟩ : ∃ V, V = isV xs id (j : Int) z := ⟨_, rfl⟩
    obtain ⟨Q, hQQ⟩ : ∃ Q, Q = isB xs id (j : Int) z := ⟨_, rfl⟩
    rw [← hVV] at hV hno
    rw [← hQQ] at hB hno
    rw [← hVV, ← hQQ]
    clear hVV hQQ
    have HB := Lib.hid hB
    have HV := Lib.hid hV
    have HNO := Lib.hid hno
    have HX := Lib.hid hx
    have HN := Lib.hid hn
    have HW := Lib.hid hw
    have HWA := Lib.hid (withV_at (ws := insV x.ws j z) hx)
    have hkn : k < n := by omega
    have r1 := (rowB_yes hrow).2.1
    have HDL := Lib.hid (show (cells1 (x.ws.drop j)).length = (x.ws.length - j) * 1 by rw [length_cells1, List.length_drop]; omega)
    have HTL := Lib.hid (show (x.ws.take j).length = j by rw [List.length_take]; omega)
    have HIL := Lib.hid (insV_len z hj)
    clear h hn hw hA hB hx hrow hi hk hV hno
    go_enter Try.func7, Try.ntmps7
    go_wp2_with fail
    refine (C.out _ HA.out).mono ?_
    rintro e w1 ⟨rfl, b1⟩
    have hs1 := b1.size
    obtain ⟨g, o, B, cc, rfl, hg, c0, c1, hc1, hc2, hrd⟩ := (HA.out.below b1).at HX.out
    have HRD := Lib.hid hrd
    have HA1 := Lib.hid (HA.out.below b1)
    have B1 := Lib.hid b1
    clear hrd b1
    unfold maxLen at hc2
    go_wp2_with fail
    refine (C1.out _).mono ?_
    rintro e w2 ⟨rfl, rfl⟩
    have k1 : (j : Int) ≤ (cc : Int) := by omega
    have k2 : j ≤ cc := by omega
    have k3 : (0 : Int) ≤ (j : Int) := by omega
    have k4 : (j : Int) ≤ (x.ws.length : Int) := by omega
    have k9 : (x.ws.length : Int) ≤ (cc : Int) := by omega
    by_cases hws : x.ws = []
    · have hj0 : j = 0 := by rw [hws] at hj; simpa using hj
      subst hj0
      have HE := Lib.hid (show cells1 (x.ws.drop 0) = [] by rw [hws]; rfl)
      clear hws
      cases B with
      | none =>
        go_wp2_with fail
        go_region_held3 (fun w' => w'.cell? ⟨g, o + k * 2 + 1, none⟩ = some (.slice none x.ws.length cc)) (first | go_keep | exact KE3 | exact KE4 | exact KE5) (first
          | (go_at_call 35; (with_reducible refine (l1Own_any none 0 cc (x.ws.take 0) _ HTL.out (by first | exact (rd_take1 HRD.out 0).drew | exact ((rd_take1 HRD.out 0).alloc _).drew) (by omega)).mono ?_); rintro e w3 ⟨u, rfl, o3, b3⟩; obtain ⟨Au, cu, rfl⟩ := own_form o3; have KE3 : w3.cell? ⟨g, o + k * 2 + 1, none⟩ = some (.slice none x.ws.length cc) := (b3.cell (p := ⟨g, o + k * 2 + 1, none⟩) (by simp <;> omega)).trans (by first | exact c1 | exact (World.cell?_alloc_lt _ _ _ hg).trans c1); have O3 : Hid (w3.ownsRow w1.heap.size 3 1 (.slice Au 0 cu) 0 (cells1 (x.ws.take 0))) := (by first | exact Lib.hid (own_mono o3 (Nat.le_refl _)) | exact Lib.hid (own_mono o3 (by simp))); have B3 : Hid (Below w1.heap.size w1 w3) := (by first | exact Lib.hid ((Below.refl _ _).drew.trans b3) | exact Lib.hid ((((Below.refl _ _).alloc (Nat.le_refl _) _).drew).trans (b3.mono (by simp)))); (first | (have RX3 := Lib.hid ((rd_new #[.int .i64 z] 3 rfl).drew.below b3)) | (have RX3 := Lib.hid trivial)))
          | (refine step_app rfl (.tmp 38) (.tmp 40) 36 rfl w1.heap.size 3 _ 1 8 Try.underlying36 infoI rfl (by omega) (.slice Au 0 cu) 0 (cells1 (x.ws.take 0)) (by simp [Act.eval, Act.put]) (by exact own_below O3.out ((Below.refl _ _).alloc (Nat.le_refl _) _)) (some ⟨w3.heap.size, 0, none⟩) 1 1 [.int .i64 z] (by simp [Act.eval, Act.put]) rfl (rd_new #[.int .i64 z] 3 rfl) (oneCell_ints [z]) (by unfold maxLen; omega) (by omega) (by have := B3.out.size; simp; omega) ?_; intro v4 w4 o4 g4 d4; have B4 : Hid (Below w1.heap.size w1 w4) := Lib.hid ((B3.out.alloc B3.out.size _).grown g4 (B3.out.alloc B3.out.size _).size (fun q hq => (O3.out.lt q hq).1)); obtain ⟨A4, c4, rfl⟩ := own_form o4; have KE4 : w4.cell? ⟨g, o + k * 2 + 1, none⟩ = some (.slice none x.ws.length cc) := (B4.out.cell (p := ⟨g, o + k * 2 + 1, none⟩) hg).trans c1; have O4 := Lib.hid o4)
          | (refine step_app rfl (.tmp 38) (.tmp 40) 36 rfl w1.heap.size 3 _ 1 8 Try.underlying36 infoI rfl (by omega) (.slice Au 0 cu) 0 (cells1 (x.ws.take 0)) (by simp [Act.eval, Act.put]) (by exact O3.out) (some ⟨w1.heap.size, 0, none⟩) 1 1 [.int .i64 z] (by simp [Act.eval, Act.put]) rfl RX3.out (oneCell_ints [z]) (by unfold maxLen; omega) (by omega) B3.out.size ?_; intro v4 w4 o4 g4 d4; have B4 : Hid (Below w1.heap.size w1 w4) := Lib.hid (B3.out.grown g4 B3.out.size (fun q hq => (O3.out.lt q hq).1)); obtain ⟨A4, c4, rfl⟩ := own_form o4; have KE4 : w4.cell? ⟨g, o + k * 2 + 1, none⟩ = some (.slice none x.ws.length cc) := (B4.out.cell (p := ⟨g, o + k * 2 + 1, none⟩) hg).trans c1; have O4 := Lib.hid o4)
          | (refine step_app rfl (.tmp 41) (.tmp 44) 36 rfl w1.heap.size 3 _ 1 8 Try.underlying36 infoI rfl (by omega) (.slice A4 (0 + 1) c4) (0 + 1) (cells1 (x.ws.take 0) ++ [.int .i64 z]) (by simp [Act.eval, Act.put]) (by exact O4.out) _ (x.ws.length - 0) _ (cells1 (x.ws.drop 0)) (by rfl) HDL.out (.inl HE.out) (oneCell_ints _) (by unfold maxLen; omega) (by omega) B4.out.size ?_; intro v5 w5 o5 g5 d5; have B5 : Hid (Below w1.heap.size w1 w5) := Lib.hid (B4.out.grown g5 B4.out.size (fun q hq => (O4.out.lt q hq).1)); have KE5 : w5.cell? ⟨g, o + k * 2 + 1, none⟩ = some (.slice none x.ws.length cc) := (B5.out.cell (p := ⟨g, o + k * 2 + 1, none⟩) hg).trans c1))
        all_goals go_goals
        all_goals (
          have o5' : w5.ownsRow w1.heap.size 3 1 v5 (x.ws.length + 1) (cells1 (insV x.ws 0 z)) := by
              have h := o5
              rw [show 0 + 1 + (x.ws.length - 0) = x.ws.length + 1 by omega] at h
              have e : cells1 (x.ws.take 0) ++ [.int .i64 z] ++ cells1 (x.ws.drop 0) = cells1 (insV x.ws 0 z) := by rw [insV, cells1_append, List.append_assoc]; rfl
              rw [← e]; exact h
          have HO5 := Lib.hid o5'
          obtain ⟨A5, c5, rfl⟩ := own_form o5'
          have hs5 := B5.out.size
          clear KE3 KE4 KE5 o3 b3 o4 o5 g4 g5 d4 d5 o5' O3 O4 B3 B4 RX3 c0
          go_wp2_with fail
          refine (l27Row_any A5 (x.ws.length + 1) c5 (insV x.ws 0 z) _ HIL.out (Rd.of_own HO5.out) (by omega)).mono ?_
          rintro e w6 ⟨rfl, rfl⟩
          cases hr : rowB (insV x.ws 0 z) with
          | false =>
            have hisv := Lib.hid (HNO.out (HB.out.trans hr))
            rw [hr] at HB
            clear hr
            go_wp2
            go_ret2
            rw [hisv.out, HB.out]
            exact ⟨_, [], rfl, ownB_empty _ _ _ _ (Nat.le_trans hs1 hs5), (B1.out.trans (B5.out.mono hs1)).alloc (Nat.le_trans hs1 hs5) _⟩
          | true =>
            have hisv := Lib.hid (HV.out hr)
            rw [hr] at HB
            clear hr
            go_wp2_with fail
            refine (l27With_any (some ⟨g, o, none⟩) n c xs k A5 (x.ws.length + 1) c5 (insV x.ws 0 z) _ HN.out (HA1.out.below B5.out) h20 HW.out HIL.out (Rd.of_own HO5.out) (by omega)).mono ?_
            rintro e w7 ⟨v7, vs7, rfl, o7, b7⟩
            have O7 := Lib.hid (o7.mono (Nat.le_trans hs1 hs5))
            have B7 := Lib.hid ((B1.out.trans (B5.out.mono hs1)).trans (b7.mono (Nat.le_trans hs1 hs5)))
            clear o7 b7
            go_wp2
            go_ret2
            rw [hisv.out, HB.out]
            refine ⟨v7, vs7, rfl, ?_, B7.out⟩
            rw [← HWA.out]; exact O7.out)
      | some ad =>
        by_cases hjc : cc = 0
        · subst hjc
          have HL0 := Lib.hid (show x.ws.length = 0 by omega)
          go_wp2_with fail
          go_region_held3 (fun w' => w'.cell? ⟨g, o + k * 2 + 1, none⟩ = some (.slice (some ad) x.ws.length 0)) (first | go_keep | exact KE3 | exact KE4 | exact KE5) (first
            | (go_at_call 35; (with_reducible refine (l1Own_any (some ad) 0 0 (x.ws.take 0) _ HTL.out (by first | exact (rd_take1 HRD.out 0).drew | exact ((rd_take1 HRD.out 0).alloc _).drew) (by omega)).mono ?_); rintro e w3 ⟨u, rfl, o3, b3⟩; obtain ⟨Au, cu, rfl⟩ := own_form o3; have KE3 : w3.cell? ⟨g, o + k * 2 + 1, none⟩ = some (.slice (some ad) x.ws.length 0) := (b3.cell (p := ⟨g, o + k * 2 + 1, none⟩) (by simp <;> omega)).trans (by first | exact c1 | exact (World.cell?_alloc_lt _ _ _ hg).trans c1); have O3 : Hid (w3.ownsRow w1.heap.size 3 1 (.slice Au 0 cu) 0 (cells1 (x.ws.take 0))) := (by first | exact Lib.hid (own_mono o3 (Nat.le_refl _)) | exact Lib.hid (own_mono o3 (by simp))); have B3 : Hid (Below w1.heap.size w1 w3) := (by first | exact Lib.hid ((Below.refl _ _).drew.trans b3) | exact Lib.hid ((((Below.refl _ _).alloc (Nat.le_refl _) _).drew).trans (b3.mono (by simp)))); (first | (have RX3 := Lib.hid ((rd_new #[.int .i64 z] 3 rfl).drew.below b3)) | (have RX3 := Lib.hid trivial)))
            | (refine step_app rfl (.tmp 38) (.tmp 40) 36 rfl w1.heap.size 3 _ 1 8 Try.underlying36 infoI rfl (by omega) (.slice Au 0 cu) 0 (cells1 (x.ws.take 0)) (by simp [Act.eval, Act.put]) (by exact own_below O3.out ((Below.refl _ _).alloc (Nat.le_refl _) _)) (some ⟨w3.heap.size, 0, none⟩) 1 1 [.int .i64 z] (by simp [Act.eval, Act.put]) rfl (rd_new #[.int .i64 z] 3 rfl) (oneCell_ints [z]) (by unfold maxLen; omega) (by omega) (by have := B3.out.size; simp; omega) ?_; intro v4 w4 o4 g4 d4; have B4 : Hid (Below w1.heap.size w1 w4) := Lib.hid ((B3.out.alloc B3.out.size _).grown g4 (B3.out.alloc B3.out.size _).size (fun q hq => (O3.out.lt q hq).1)); obtain ⟨A4, c4, rfl⟩ := own_form o4; have KE4 : w4.cell? ⟨g, o + k * 2 + 1, none⟩ = some (.slice (some ad) x.ws.length 0) := (B4.out.cell (p := ⟨g, o + k * 2 + 1, none⟩) hg).trans c1; have O4 := Lib.hid o4)
            | (refine step_app rfl (.tmp 38) (.tmp 40) 36 rfl w1.heap.size 3 _ 1 8 Try.underlying36 infoI rfl (by omega) (.slice Au 0 cu) 0 (cells1 (x.ws.take 0)) (by simp [Act.eval, Act.put]) (by exact O3.out) (some ⟨w1.heap.size, 0, none⟩) 1 1 [.int .i64 z] (by simp [Act.eval, Act.put]) rfl RX3.out (oneCell_ints [z]) (by unfold maxLen; omega) (by omega) B3.out.size ?_; intro v4 w4 o4 g4 d4; have B4 : Hid (Below w1.heap.size w1 w4) := Lib.hid (B3.out.grown g4 B3.out.size (fun q hq => (O3.out.lt q hq).1)); obtain ⟨A4, c4, rfl⟩ := own_form o4; have KE4 : w4.cell? ⟨g, o + k * 2 + 1, none⟩ = some (.slice (some ad) x.ws.length 0) := (B4.out.cell (p := ⟨g, o + k * 2 + 1, none⟩) hg).trans c1; have O4 := Lib.hid o4)
            | (refine step_app rfl (.tmp 41) (.tmp 44) 36 rfl w1.heap.size 3 _ 1 8 Try.underlying36 infoI rfl (by omega) (.slice A4 (0 + 1) c4) (0 + 1) (cells1 (x.ws.take 0) ++ [.int .i64 z]) (by simp [Act.eval, Act.put]) (by exact O4.out) _ 0 _ (cells1 (x.ws.drop 0)) (by rfl) (by rw [HE.out]; rfl) (.inl HE.out) (oneCell_ints _) (by unfold maxLen; omega) (by omega) B4.out.size ?_; intro v5 w5 o5 g5 d5; have B5 : Hid (Below w1.heap.size w1 w5) := Lib.hid (B4.out.grown g5 B4.out.size (fun q hq => (O4.out.lt q hq).1)); have KE5 : w5.cell? ⟨g, o + k * 2 + 1, none⟩ = some (.slice (some ad) x.ws.length 0) := (B5.out.cell (p := ⟨g, o + k * 2 + 1, none⟩) hg).trans c1))
          all_goals go_goals
          all_goals (
            have o5' : w5.ownsRow w1.heap.size 3 1 v5 (x.ws.length + 1) (cells1 (insV x.ws 0 z)) := by
                have h := o5
                rw [show 0 + 1 + 0 = x.ws.length + 1 by have := HL0.out; omega] at h
                have e : cells1 (x.ws.take 0) ++ [.int .i64 z] ++ cells1 (x.ws.drop 0) = cells1 (insV x.ws 0 z) := by rw [insV, cells1_append, List.append_assoc]; rfl
                rw [← e]; exact h
            have HO5 := Lib.hid o5'
            obtain ⟨A5, c5, rfl⟩ := own_form o5'
            have hs5 := B5.out.size
            clear KE3 KE4 KE5 o3 b3 o4 o5 g4 g5 d4 d5 o5' O3 O4 B3 B4 RX3 c0
            go_wp2_with fail
            refine (l27Row_any A5 (x.ws.length + 1) c5 (insV x.ws 0 z) _ HIL.out (Rd.of_own HO5.out) (by omega)).mono ?_
            rintro e w6 ⟨rfl, rfl⟩
            cases hr : rowB (insV x.ws 0 z) with
            | false =>
              have hisv := Lib.hid (HNO.out (HB.out.trans hr))
              rw [hr] at HB
              clear hr
              go_wp2
              go_ret2
              rw [hisv.out, HB.out]
              exact ⟨_, [], rfl, ownB_empty _ _ _ _ (Nat.le_trans hs1 hs5), (B1.out.trans (B5.out.mono hs1)).alloc (Nat.le_trans hs1 hs5) _⟩
            | true =>
              have hisv := Lib.hid (HV.out hr)
              rw [hr] at HB
              clear hr
              go_wp2_with fail
              refine (l27With_any (some ⟨g, o, none⟩) n c xs k A5 (x.ws.length + 1) c5 (insV x.ws 0 z) _ HN.out (HA1.out.below B5.out) h20 HW.out HIL.out (Rd.of_own HO5.out) (by omega)).mono ?_
              rintro e w7 ⟨v7, vs7, rfl, o7, b7⟩
              have O7 := Lib.hid (o7.mono (Nat.le_trans hs1 hs5))
              have B7 := Lib.hid ((B1.out.trans (B5.out.mono hs1)).trans (b7.mono (Nat.le_trans hs1 hs5)))
              clear o7 b7
              go_wp2
              go_ret2
              rw [hisv.out, HB.out]
              refine ⟨v7, vs7, rfl, ?_, B7.out⟩
              rw [← HWA.out]; exact O7.out)
        · have k7 : ¬ 0 = cc := fun e => hjc e.symm
          go_wp2_with fail
          go_region_held3 (fun w' => w'.cell? ⟨g, o + k * 2 + 1, none⟩ = some (.slice (some ad) x.ws.length cc)) (first | go_keep | exact KE3 | exact KE4 | exact KE5) (first
            | (go_at_call 35; (with_reducible refine (l1Own_any (some ad) 0 cc (x.ws.take 0) _ HTL.out (by first | exact (rd_take1 HRD.out 0).drew | exact ((rd_take1 HRD.out 0).alloc _).drew) (by omega)).mono ?_); rintro e w3 ⟨u, rfl, o3, b3⟩; obtain ⟨Au, cu, rfl⟩ := own_form o3; have KE3 : w3.cell? ⟨g, o + k * 2 + 1, none⟩ = some (.slice (some ad) x.ws.length cc) := (b3.cell (p := ⟨g, o + k * 2 + 1, none⟩) (by simp <;> omega)).trans (by first | exact c1 | exact (World.cell?_alloc_lt _ _ _ hg).trans c1); have O3 : Hid (w3.ownsRow w1.heap.size 3 1 (.slice Au 0 cu) 0 (cells1 (x.ws.take 0))) := (by first | exact Lib.hid (own_mono o3 (Nat.le_refl _)) | exact Lib.hid (own_mono o3 (by simp))); have B3 : Hid (Below w1.heap.size w1 w3) := (by first | exact Lib.hid ((Below.refl _ _).drew.trans b3) | exact Lib.hid ((((Below.refl _ _).alloc (Nat.le_refl _) _).drew).trans (b3.mono (by simp)))); (first | (have RX3 := Lib.hid ((rd_new #[.int .i64 z] 3 rfl).drew.below b3)) | (have RX3 := Lib.hid trivial)))
            | (refine step_app rfl (.tmp 38) (.tmp 40) 36 rfl w1.heap.size 3 _ 1 8 Try.underlying36 infoI rfl (by omega) (.slice Au 0 cu) 0 (cells1 (x.ws.take 0)) (by simp [Act.eval, Act.put]) (by exact own_below O3.out ((Below.refl _ _).alloc (Nat.le_refl _) _)) (some ⟨w3.heap.size, 0, none⟩) 1 1 [.int .i64 z] (by simp [Act.eval, Act.put]) rfl (rd_new #[.int .i64 z] 3 rfl) (oneCell_ints [z]) (by unfold maxLen; omega) (by omega) (by have := B3.out.size; simp; omega) ?_; intro v4 w4 o4 g4 d4; have B4 : Hid (Below w1.heap.size w1 w4) := Lib.hid ((B3.out.alloc B3.out.size _).grown g4 (B3.out.alloc B3.out.size _).size (fun q hq => (O3.out.lt q hq).1)); obtain ⟨A4, c4, rfl⟩ := own_form o4; have KE4 : w4.cell? ⟨g, o + k * 2 + 1, none⟩ = some (.slice (some ad) x.ws.length cc) := (B4.out.cell (p := ⟨g, o + k * 2 + 1, none⟩) hg).trans c1; have O4 := Lib.hid o4)
            | (refine step_app rfl (.tmp 38) (.tmp 40) 36 rfl w1.heap.size 3 _ 1 8 Try.underlying36 infoI rfl (by omega) (.slice Au 0 cu) 0 (cells1 (x.ws.take 0)) (by simp [Act.eval, Act.put]) (by exact O3.out) (some ⟨w1.heap.size, 0, none⟩) 1 1 [.int .i64 z] (by simp [Act.eval, Act.put]) rfl RX3.out (oneCell_ints [z]) (by unfold maxLen; omega) (by omega) B3.out.size ?_; intro v4 w4 o4 g4 d4; have B4 : Hid (Below w1.heap.size w1 w4) := Lib.hid (B3.out.grown g4 B3.out.size (fun q hq => (O3.out.lt q hq).1)); obtain ⟨A4, c4, rfl⟩ := own_form o4; have KE4 : w4.cell? ⟨g, o + k * 2 + 1, none⟩ = some (.slice (some ad) x.ws.length cc) := (B4.out.cell (p := ⟨g, o + k * 2 + 1, none⟩) hg).trans c1; have O4 := Lib.hid o4)
            | (refine step_app rfl (.tmp 41) (.tmp 44) 36 rfl w1.heap.size 3 _ 1 8 Try.underlying36 infoI rfl (by omega) (.slice A4 (0 + 1) c4) (0 + 1) (cells1 (x.ws.take 0) ++ [.int .i64 z]) (by simp [Act.eval, Act.put]) (by exact O4.out) _ (x.ws.length - 0) _ (cells1 (x.ws.drop 0)) (by rfl) HDL.out (.inl HE.out) (oneCell_ints _) (by unfold maxLen; omega) (by omega) B4.out.size ?_; intro v5 w5 o5 g5 d5; have B5 : Hid (Below w1.heap.size w1 w5) := Lib.hid (B4.out.grown g5 B4.out.size (fun q hq => (O4.out.lt q hq).1)); have KE5 : w5.cell? ⟨g, o + k * 2 + 1, none⟩ = some (.slice (some ad) x.ws.length cc) := (B5.out.cell (p := ⟨g, o + k * 2 + 1, none⟩) hg).trans c1))
          all_goals go_goals
          all_goals (
            have o5' : w5.ownsRow w1.heap.size 3 1 v5 (x.ws.length + 1) (cells1 (insV x.ws 0 z)) := by
                have h := o5
                rw [show 0 + 1 + (x.ws.length - 0) = x.ws.length + 1 by omega] at h
                have e : cells1 (x.ws.take 0) ++ [.int .i64 z] ++ cells1 (x.ws.drop 0) = cells1 (insV x.ws 0 z) := by rw [insV, cells1_append, List.append_assoc]; rfl
                rw [← e]; exact h
            have HO5 := Lib.hid o5'
            obtain ⟨A5, c5, rfl⟩ := own_form o5'
            have hs5 := B5.out.size
            clear KE3 KE4 KE5 o3 b3 o4 o5 g4 g5 d4 d5 o5' O3 O4 B3 B4 RX3 c0
            go_wp2_with fail
            refine (l27Row_any A5 (x.ws.length + 1) c5 (insV x.ws 0 z) _ HIL.out (Rd.of_own HO5.out) (by omega)).mono ?_
            rintro e w6 ⟨rfl, rfl⟩
            cases hr : rowB (insV x.ws 0 z) with
            | false =>
              have hisv := Lib.hid (HNO.out (HB.out.trans hr))
              rw [hr] at HB
              clear hr
              go_wp2
              go_ret2
              rw [hisv.out, HB.out]
              exact ⟨_, [], rfl, ownB_empty _ _ _ _ (Nat.le_trans hs1 hs5), (B1.out.trans (B5.out.mono hs1)).alloc (Nat.le_trans hs1 hs5) _⟩
            | true =>
              have hisv := Lib.hid (HV.out hr)
              rw [hr] at HB
              clear hr
              go_wp2_with fail
              refine (l27With_any (some ⟨g, o, none⟩) n c xs k A5 (x.ws.length + 1) c5 (insV x.ws 0 z) _ HN.out (HA1.out.below B5.out) h20 HW.out HIL.out (Rd.of_own HO5.out) (by omega)).mono ?_
              rintro e w7 ⟨v7, vs7, rfl, o7, b7⟩
              have O7 := Lib.hid (o7.mono (Nat.le_trans hs1 hs5))
              have B7 := Lib.hid ((B1.out.trans (B5.out.mono hs1)).trans (b7.mono (Nat.le_trans hs1 hs5)))
              clear o7 b7
              go_wp2
              go_ret2
              rw [hisv.out, HB.out]
              refine ⟨v7, vs7, rfl, ?_, B7.out⟩
              rw [← HWA.out]; exact O7.out)
    · obtain ⟨y, hy⟩ : ∃ y, x.ws[0]? = some y := by
        cases e : x.ws with
        | nil => exact absurd e hws
        | cons y ys => exact ⟨y, rfl⟩
      obtain ⟨gb, ob, rfl, hgb, -⟩ := HRD.out.at1 hy
      clear hy hws
      by_cases hjc : cc = j
      · have k7 : (cc = j) ↔ True := ⟨fun _ => trivial, fun _ => hjc⟩
        have k8 : (j = cc) ↔ True := ⟨fun _ => trivial, fun _ => hjc.symm⟩
        have HE := Lib.hid (show cells1 (x.ws.drop j) = [] by rw [List.drop_eq_nil_of_le (by omega)]; rfl)
        clear hjc
        go_wp2_with fail
        go_region_held3 (fun w' => w'.cell? ⟨g, o + k * 2 + 1, none⟩ = some (.slice (some ⟨gb, ob, none⟩) x.ws.length cc)) (first | go_keep | exact KE3 | exact KE4 | exact KE5) (first
          | (go_at_call 35; (with_reducible refine (l1Own_any (some ⟨gb, ob, none⟩) j cc (x.ws.take j) _ HTL.out (by first | exact (rd_take1 HRD.out j).drew | exact ((rd_take1 HRD.out j).alloc _).drew) (by omega)).mono ?_); rintro e w3 ⟨u, rfl, o3, b3⟩; obtain ⟨Au, cu, rfl⟩ := own_form o3; have KE3 : w3.cell? ⟨g, o + k * 2 + 1, none⟩ = some (.slice (some ⟨gb, ob, none⟩) x.ws.length cc) := (b3.cell (p := ⟨g, o + k * 2 + 1, none⟩) (by simp <;> omega)).trans (by first | exact c1 | exact (World.cell?_alloc_lt _ _ _ hg).trans c1); have O3 : Hid (w3.ownsRow w1.heap.size 3 1 (.slice Au j cu) j (cells1 (x.ws.take j))) := (by first | exact Lib.hid (own_mono o3 (Nat.le_refl _)) | exact Lib.hid (own_mono o3 (by simp))); have B3 : Hid (Below w1.heap.size w1 w3) := (by first | exact Lib.hid ((Below.refl _ _).drew.trans b3) | exact Lib.hid ((((Below.refl _ _).alloc (Nat.le_refl _) _).drew).trans (b3.mono (by simp)))); (first | (have RX3 := Lib.hid ((rd_new #[.int .i64 z] 3 rfl).drew.below b3)) | (have RX3 := Lib.hid trivial)))
          | (refine step_app rfl (.tmp 38) (.tmp 40) 36 rfl w1.heap.size 3 _ 1 8 Try.underlying36 infoI rfl (by omega) (.slice Au j cu) j (cells1 (x.ws.take j)) (by simp [Act.eval, Act.put]) (by exact own_below O3.out ((Below.refl _ _).alloc (Nat.le_refl _) _)) (some ⟨w3.heap.size, 0, none⟩) 1 1 [.int .i64 z] (by simp [Act.eval, Act.put]) rfl (rd_new #[.int .i64 z] 3 rfl) (oneCell_ints [z]) (by unfold maxLen; omega) (by omega) (by have := B3.out.size; simp; omega) ?_; intro v4 w4 o4 g4 d4; have B4 : Hid (Below w1.heap.size w1 w4) := Lib.hid ((B3.out.alloc B3.out.size _).grown g4 (B3.out.alloc B3.out.size _).size (fun q hq => (O3.out.lt q hq).1)); obtain ⟨A4, c4, rfl⟩ := own_form o4; have KE4 : w4.cell? ⟨g, o + k * 2 + 1, none⟩ = some (.slice (some ⟨gb, ob, none⟩) x.ws.length cc) := (B4.out.cell (p := ⟨g, o + k * 2 + 1, none⟩) hg).trans c1; have O4 := Lib.hid o4)
          | (refine step_app rfl (.tmp 38) (.tmp 40) 36 rfl w1.heap.size 3 _ 1 8 Try.underlying36 infoI rfl (by omega) (.slice Au j cu) j (cells1 (x.ws.take j)) (by simp [Act.eval, Act.put]) (by exact O3.out) (some ⟨w1.heap.size, 0, none⟩) 1 1 [.int .i64 z] (by simp [Act.eval, Act.put]) rfl RX3.out (oneCell_ints [z]) (by unfold maxLen; omega) (by omega) B3.out.size ?_; intro v4 w4 o4 g4 d4; have B4 : Hid (Below w1.heap.size w1 w4) := Lib.hid (B3.out.grown g4 B3.out.size (fun q hq => (O3.out.lt q hq).1)); obtain ⟨A4, c4, rfl⟩ := own_form o4; have KE4 : w4.cell? ⟨g, o + k * 2 + 1, none⟩ = some (.slice (some ⟨gb, ob, none⟩) x.ws.length cc) := (B4.out.cell (p := ⟨g, o + k * 2 + 1, none⟩) hg).trans c1; have O4 := Lib.hid o4)
          | (refine step_app rfl (.tmp 41) (.tmp 44) 36 rfl w1.heap.size 3 _ 1 8 Try.underlying36 infoI rfl (by omega) (.slice A4 (j + 1) c4) (j + 1) (cells1 (x.ws.take j) ++ [.int .i64 z]) (by simp [Act.eval, Act.put]) (by exact O4.out) _ (x.ws.length - j) _ (cells1 (x.ws.drop j)) (by rfl) HDL.out (.inl HE.out) (oneCell_ints _) (by unfold maxLen; omega) (by omega) B4.out.size ?_; intro v5 w5 o5 g5 d5; have B5 : Hid (Below w1.heap.size w1 w5) := Lib.hid (B4.out.grown g5 B4.out.size (fun q hq => (O4.out.lt q hq).1)); have KE5 : w5.cell? ⟨g, o + k * 2 + 1, none⟩ = some (.slice (some ⟨gb, ob, none⟩) x.ws.length cc) := (B5.out.cell (p := ⟨g, o + k * 2 + 1, none⟩) hg).trans c1))
        all_goals go_goals
        all_goals (
          have o5' : w5.ownsRow w1.heap.size 3 1 v5 (x.ws.length + 1) (cells1 (insV x.ws j z)) := by
              have h := o5
              rw [show j + 1 + (x.ws.length - j) = x.ws.length + 1 by omega] at h
              have e : cells1 (x.ws.take j) ++ [.int .i64 z] ++ cells1 (x.ws.drop j) = cells1 (insV x.ws j z) := by rw [insV, cells1_append, List.append_assoc]; rfl
              rw [← e]; exact h
          have HO5 := Lib.hid o5'
          obtain ⟨A5, c5, rfl⟩ := own_form o5'
          have hs5 := B5.out.size
          clear KE3 KE4 KE5 o3 b3 o4 o5 g4 g5 d4 d5 o5' O3 O4 B3 B4 RX3 c0
          go_wp2_with fail
          refine (l27Row_any A5 (x.ws.length + 1) c5 (insV x.ws j z) _ HIL.out (Rd.of_own HO5.out) (by omega)).mono ?_
          rintro e w6 ⟨rfl, rfl⟩
          cases hr : rowB (insV x.ws j z) with
          | false =>
            have hisv := Lib.hid (HNO.out (HB.out.trans hr))
            rw [hr] at HB
            clear hr
            go_wp2
            go_ret2
            rw [hisv.out, HB.out]
            exact ⟨_, [], rfl, ownB_empty _ _ _ _ (Nat.le_trans hs1 hs5), (B1.out.trans (B5.out.mono hs1)).alloc (Nat.le_trans hs1 hs5) _⟩
          | true =>
            have hisv := Lib.hid (HV.out hr)
            rw [hr] at HB
            clear hr
            go_wp2_with fail
            refine (l27With_any (some ⟨g, o, none⟩) n c xs k A5 (x.ws.length + 1) c5 (insV x.ws j z) _ HN.out (HA1.out.below B5.out) h20 HW.out HIL.out (Rd.of_own HO5.out) (by omega)).mono ?_
            rintro e w7 ⟨v7, vs7, rfl, o7, b7⟩
            have O7 := Lib.hid (o7.mono (Nat.le_trans hs1 hs5))
            have B7 := Lib.hid ((B1.out.trans (B5.out.mono hs1)).trans (b7.mono (Nat.le_trans hs1 hs5)))
            clear o7 b7
            go_wp2
            go_ret2
            rw [hisv.out, HB.out]
            refine ⟨v7, vs7, rfl, ?_, B7.out⟩
            rw [← HWA.out]; exact O7.out)
      · have k7 : ¬ j = cc := fun e => hjc e.symm
        go_wp2_with fail
        go_region_held3 (fun w' => w'.cell? ⟨g, o + k * 2 + 1, none⟩ = some (.slice (some ⟨gb, ob, none⟩) x.ws.length cc)) (first | go_keep | exact KE3 | exact KE4 | exact KE5) (first
          | (go_at_call 35; (with_reducible refine (l1Own_any (some ⟨gb, ob, none⟩) j cc (x.ws.take j) _ HTL.out (by first | exact (rd_take1 HRD.out j).drew | exact ((rd_take1 HRD.out j).alloc _).drew) (by omega)).mono ?_); rintro e w3 ⟨u, rfl, o3, b3⟩; obtain ⟨Au, cu, rfl⟩ := own_form o3; have KE3 : w3.cell? ⟨g, o + k * 2 + 1, none⟩ = some (.slice (some ⟨gb, ob, none⟩) x.ws.length cc) := (b3.cell (p := ⟨g, o + k * 2 + 1, none⟩) (by simp <;> omega)).trans (by first | exact c1 | exact (World.cell?_alloc_lt _ _ _ hg).trans c1); have O3 : Hid (w3.ownsRow w1.heap.size 3 1 (.slice Au j cu) j (cells1 (x.ws.take j))) := (by first | exact Lib.hid (own_mono o3 (Nat.le_refl _)) | exact Lib.hid (own_mono o3 (by simp))); have B3 : Hid (Below w1.heap.size w1 w3) := (by first | exact Lib.hid ((Below.refl _ _).drew.trans b3) | exact Lib.hid ((((Below.refl _ _).alloc (Nat.le_refl _) _).drew).trans (b3.mono (by simp)))); (first | (have RX3 := Lib.hid ((rd_new #[.int .i64 z] 3 rfl).drew.below b3)) | (have RX3 := Lib.hid trivial)))
          | (refine step_app rfl (.tmp 38) (.tmp 40) 36 rfl w1.heap.size 3 _ 1 8 Try.underlying36 infoI rfl (by omega) (.slice Au j cu) j (cells1 (x.ws.take j)) (by simp [Act.eval, Act.put]) (by exact own_below O3.out ((Below.refl _ _).alloc (Nat.le_refl _) _)) (some ⟨w3.heap.size, 0, none⟩) 1 1 [.int .i64 z] (by simp [Act.eval, Act.put]) rfl (rd_new #[.int .i64 z] 3 rfl) (oneCell_ints [z]) (by unfold maxLen; omega) (by omega) (by have := B3.out.size; simp; omega) ?_; intro v4 w4 o4 g4 d4; have B4 : Hid (Below w1.heap.size w1 w4) := Lib.hid ((B3.out.alloc B3.out.size _).grown g4 (B3.out.alloc B3.out.size _).size (fun q hq => (O3.out.lt q hq).1)); obtain ⟨A4, c4, rfl⟩ := own_form o4; have KE4 : w4.cell? ⟨g, o + k * 2 + 1, none⟩ = some (.slice (some ⟨gb, ob, none⟩) x.ws.length cc) := (B4.out.cell (p := ⟨g, o + k * 2 + 1, none⟩) hg).trans c1; have O4 := Lib.hid o4)
          | (refine step_app rfl (.tmp 38) (.tmp 40) 36 rfl w1.heap.size 3 _ 1 8 Try.underlying36 infoI rfl (by omega) (.slice Au j cu) j (cells1 (x.ws.take j)) (by simp [Act.eval, Act.put]) (by exact O3.out) (some ⟨w1.heap.size, 0, none⟩) 1 1 [.int .i64 z] (by simp [Act.eval, Act.put]) rfl RX3.out (oneCell_ints [z]) (by unfold maxLen; omega) (by omega) B3.out.size ?_; intro v4 w4 o4 g4 d4; have B4 : Hid (Below w1.heap.size w1 w4) := Lib.hid (B3.out.grown g4 B3.out.size (fun q hq => (O3.out.lt q hq).1)); obtain ⟨A4, c4, rfl⟩ := own_form o4; have KE4 : w4.cell? ⟨g, o + k * 2 + 1, none⟩ = some (.slice (some ⟨gb, ob, none⟩) x.ws.length cc) := (B4.out.cell (p := ⟨g, o + k * 2 + 1, none⟩) hg).trans c1; have O4 := Lib.hid o4)
          | (refine step_app rfl (.tmp 41) (.tmp 44) 36 rfl w1.heap.size 3 _ 1 8 Try.underlying36 infoI rfl (by omega) (.slice A4 (j + 1) c4) (j + 1) (cells1 (x.ws.take j) ++ [.int .i64 z]) (by simp [Act.eval, Act.put]) (by exact O4.out) (some ⟨gb, ob + j, none⟩) (x.ws.length - j) _ (cells1 (x.ws.drop j)) (by rfl) HDL.out (rd_drop1 (HRD.out.below B4.out) j) (oneCell_ints _) (by unfold maxLen; omega) (by omega) B4.out.size ?_; intro v5 w5 o5 g5 d5; have B5 : Hid (Below w1.heap.size w1 w5) := Lib.hid (B4.out.grown g5 B4.out.size (fun q hq => (O4.out.lt q hq).1)); have KE5 : w5.cell? ⟨g, o + k * 2 + 1, none⟩ = some (.slice (some ⟨gb, ob, none⟩) x.ws.length cc) := (B5.out.cell (p := ⟨g, o + k * 2 + 1, none⟩) hg).trans c1))
        all_goals go_goals
        all_goals (
          have o5' : w5.ownsRow w1.heap.size 3 1 v5 (x.ws.length + 1) (cells1 (insV x.ws j z)) := by
              have h := o5
              rw [show j + 1 + (x.ws.length - j) = x.ws.length + 1 by omega] at h
              have e : cells1 (x.ws.take j) ++ [.int .i64 z] ++ cells1 (x.ws.drop j) = cells1 (insV x.ws j z) := by rw [insV, cells1_append, List.append_assoc]; rfl
              rw [← e]; exact h
          have HO5 := Lib.hid o5'
          obtain ⟨A5, c5, rfl⟩ := own_form o5'
          have hs5 := B5.out.size
          clear KE3 KE4 KE5 o3 b3 o4 o5 g4 g5 d4 d5 o5' O3 O4 B3 B4 RX3 c0
          go_wp2_with fail
          refine (l27Row_any A5 (x.ws.length + 1) c5 (insV x.ws j z) _ HIL.out (Rd.of_own HO5.out) (by omega)).mono ?_
          rintro e w6 ⟨rfl, rfl⟩
          cases hr : rowB (insV x.ws j z) with
          | false =>
            have hisv := Lib.hid (HNO.out (HB.out.trans hr))
            rw [hr] at HB
            clear hr
            go_wp2
            go_ret2
            rw [hisv.out, HB.out]
            exact ⟨_, [], rfl, ownB_empty _ _ _ _ (Nat.le_trans hs1 hs5), (B1.out.trans (B5.out.mono hs1)).alloc (Nat.le_trans hs1 hs5) _⟩
          | true =>
            have hisv := Lib.hid (HV.out hr)
            rw [hr] at HB
            clear hr
            go_wp2_with fail
            refine (l27With_any (some ⟨g, o, none⟩) n c xs k A5 (x.ws.length + 1) c5 (insV x.ws j z) _ HN.out (HA1.out.below B5.out) h20 HW.out HIL.out (Rd.of_own HO5.out) (by omega)).mono ?_
            rintro e w7 ⟨v7, vs7, rfl, o7, b7⟩
            have O7 := Lib.hid (o7.mono (Nat.le_trans hs1 hs5))
            have B7 := Lib.hid ((B1.out.trans (B5.out.mono hs1)).trans (b7.mono (Nat.le_trans hs1 hs5)))
            clear o7 b7
            go_wp2
            go_ret2
            rw [hisv.out, HB.out]
            refine ⟨v7, vs7, rfl, ?_, B7.out⟩
            rw [← HWA.out]; exact O7.out)
end Go.Proofs.Ytacacibpehnmgaa
