/- A step of an auction: the reference: a new lot in its place. -/
import Derived.Test.YtjnbcippipookaaAuS
namespace Go.Proofs.Ytjnbcippipookaa
set_option linter.unusedVariables false
set_option linter.unusedSimpArgs false
open Go.RowKit

set_option maxRecDepth 20000 in
set_option maxHeartbeats 4000000 in
theorem l29Put_any (A : Option Addr) (n c : Nat) (xs : List R5) (id rv : Int) (w : World) (hn : xs.length = n) (hA : Rd w A (cells5 xs)) (hv : auc xs = true) (hc : n ≤ c) (hcm : c ≤ maxLen) :
    Calls Try.prog 44 #[.slice A n c, .int .i64 id, .int .i64 rv] w (RetOwn 36 5 (n + 1) (cells5 (puA xs id rv)) w) := by
  have n8 : n ≤ 8 := by have := auc_len hv; omega
  have HA := Lib.hid hA
  have HN := Lib.hid hn
  clear hA hn hv
  go_enter Try.func44, Try.ntmps44
  go_wp2_with fail
  go_loopw [7] (fun i wr => ∃ k : Nat, i = .int .i64 k ∧ k ≤ n ∧ (∀ (t : Nat) (y : R5), t < k → xs[t]? = some y → y.a < id) ∧ w = wr) (fun i _ => (n - intOf i).toNat)
  case atStart => exact ⟨0, rfl, by omega, fun t y ht => by omega, rfl⟩
  case round =>
    obtain ⟨k, rfl, hkn, h1, rfl⟩ := hrel
    have H1 := Lib.hid h1
    clear h1
    by_cases hlt : k < n
    · obtain ⟨y, hy⟩ : ∃ y, xs[k]? = some y := ⟨xs[k]'(by have := HN.out; omega), List.getElem?_eq_getElem _⟩
      obtain ⟨g, o, hAe, hg, c0, c1, c2, c3, c4⟩ := HA.out.at5 hy
      subst hAe
      have HY := Lib.hid hy
      have hlt' : (k : Int) < (n : Int) := by omega
      clear hy
      by_cases hq : y.a < id
      · have HQ := Lib.hid hq
        go_wp2
        go_roundw
        case rel =>
          refine ⟨k + 1, by go_num, by omega, fun t u ht hu => ?_, by first | rfl | trivial⟩
          rcases Nat.lt_or_eq_of_le (show t ≤ k by omega) with h | h
          · exact H1.out t u h hu
          · subst h; rw [HY.out] at hu; injection hu with hu; subst hu; exact HQ.out
        case measure => simp [intOf]; omega
      · have HPX := Lib.hid (posA_eq (i := id) (xs := xs) (k := k) (by have := HN.out; omega) H1.out (fun u hu => by rw [HY.out] at hu; injection hu with hu; subst hu; exact hq))
        have hq2 : id ≤ y.a := by omega
        go_wp2_with fail
        have hk0 : (0 : Int) ≤ (k : Int) := by omega
        have hk2 : (k : Int) ≤ (c : Int) := by omega
        have hk3 : k ≤ c := by omega
        have hk1 : (k : Int) ≤ (n : Int) := by omega
        have hck : ¬ c = k := by omega
        have hck2 : ¬ k = c := by omega
        have HK5 := Lib.hid (show (cells5 (xs.take k)).length = k * 5 by have h1 := HN.out; have h2 := length_cells5 (xs.take k); rw [List.length_take] at h2; omega)
        have HD5 := Lib.hid (show (cells5 (xs.drop k)).length = (n - k) * 5 by have h1 := HN.out; have h2 := length_cells5 (xs.drop k); rw [List.length_drop] at h2; omega)
        have HX5 := Lib.hid (show (⟨id, rv, 0, 0, 0⟩ : R5).cells.length = 1 * 5 from rfl)
        have HS0 := Lib.hid (Nat.le_refl w.heap.size)
        have OA : Hid (((w.alloc (.cells #[] 36)).drew).ownsRow w.heap.size 36 5 (.slice (some ⟨w.heap.size, 0, none⟩) 0 0) 0 []) := Lib.hid (own_empty w _ _ _ (Nat.le_refl _))
        have BBA : Hid (Below w.heap.size w ((w.alloc (.cells #[] 36)).drew)) := Lib.hid ((Below.refl _ _).alloc (Nat.le_refl _) _).drew
        have RAA : Hid (Rd ((w.alloc (.cells #[] 36)).drew) (some ⟨g, o, none⟩) (cells5 (xs.take k))) := Lib.hid (rd_takeT (HA.out.below BBA.out) k)
        have OB : Hid ((((w.alloc (.cells #[] 36)).alloc (.cells #[.int .i64 id, .int .i64 rv, .int .i64 0, .int .i64 0, .int .i64 0] 36)).drew).ownsRow w.heap.size 36 5 (.slice (some ⟨w.heap.size, 0, none⟩) 0 0) 0 []) := Lib.hid ((own_empty w _ _ _ (Nat.le_refl _)).alloc _)
        have BBB : Hid (Below w.heap.size w (((w.alloc (.cells #[] 36)).alloc (.cells #[.int .i64 id, .int .i64 rv, .int .i64 0, .int .i64 0, .int .i64 0] 36)).drew)) := Lib.hid ((((Below.refl _ _).alloc (Nat.le_refl _) _).alloc (by simp) _).drew)
        have RXB : Hid (Rd (((w.alloc (.cells #[] 36)).alloc (.cells #[.int .i64 id, .int .i64 rv, .int .i64 0, .int .i64 0, .int .i64 0] 36)).drew) (some ⟨w.heap.size + 1, 0, none⟩) (⟨id, rv, 0, 0, 0⟩ : R5).cells) := Lib.hid (rd_new #[.int .i64 id, .int .i64 rv, .int .i64 0, .int .i64 0, .int .i64 0] 36 (by simp))
        have RAB : Hid (Rd (((w.alloc (.cells #[] 36)).alloc (.cells #[.int .i64 id, .int .i64 rv, .int .i64 0, .int .i64 0, .int .i64 0] 36)).drew) (some ⟨g, o, none⟩) (cells5 (xs.take k))) := Lib.hid (rd_takeT (HA.out.below BBB.out) k)
        have OC : Hid ((((w.alloc (.cells #[.int .i64 id, .int .i64 rv, .int .i64 0, .int .i64 0, .int .i64 0] 36)).alloc (.cells #[] 36)).drew).ownsRow w.heap.size 36 5 (.slice (some ⟨(w.heap.size + 1), 0, none⟩) 0 0) 0 []) := Lib.hid (own_empty' (by simp) (by simp))
        have BBC : Hid (Below w.heap.size w (((w.alloc (.cells #[.int .i64 id, .int .i64 rv, .int .i64 0, .int .i64 0, .int .i64 0] 36)).alloc (.cells #[] 36)).drew)) := Lib.hid ((((Below.refl _ _).alloc (Nat.le_refl _) _).alloc (by simp) _).drew)
        have RXC : Hid (Rd (((w.alloc (.cells #[.int .i64 id, .int .i64 rv, .int .i64 0, .int .i64 0, .int .i64 0] 36)).alloc (.cells #[] 36)).drew) (some ⟨w.heap.size, 0, none⟩) (⟨id, rv, 0, 0, 0⟩ : R5).cells) := Lib.hid ((rd_new #[.int .i64 id, .int .i64 rv, .int .i64 0, .int .i64 0, .int .i64 0] 36 rfl).alloc _)
        have RAC : Hid (Rd (((w.alloc (.cells #[.int .i64 id, .int .i64 rv, .int .i64 0, .int .i64 0, .int .i64 0] 36)).alloc (.cells #[] 36)).drew) (some ⟨g, o, none⟩) (cells5 (xs.take k))) := Lib.hid (rd_takeT (HA.out.below BBC.out) k)
        go_region_held3 (fun w' => True) (first | go_keep | trivial) (first
  | (refine step_app rfl (.tmp 23) (.tmp 26) 24 rfl w.heap.size 36 _ 5 40 Try.underlying24 info36 rfl (by omega) (.slice (some ⟨w.heap.size, 0, none⟩) 0 0) 0 [] (by simp [Act.eval, Act.put]) (by with_reducible exact OA.out) (some ⟨g, o, none⟩) k c (cells5 (xs.take k)) (by simp [Act.eval, Act.put]) HK5.out (RAA.out) (oneCell_cells5 _) (by unfold maxLen; omega) (by omega) (by first | exact HS0.out | exact B4.size | exact (B4.alloc B4.size _).size | exact B5.size | (simp <;> omega)) ?_; intro v4 w4 o4 g4w _; have B4 := BBA.out.grown g4w BBA.out.size (fun j hj => (OA.out.lt j hj).1))
  | (refine step_app rfl (.tmp 23) (.tmp 26) 24 rfl w.heap.size 36 _ 5 40 Try.underlying24 info36 rfl (by omega) (.slice (some ⟨w.heap.size, 0, none⟩) 0 0) 0 [] (by simp [Act.eval, Act.put]) (by with_reducible exact OB.out) (some ⟨g, o, none⟩) k c (cells5 (xs.take k)) (by simp [Act.eval, Act.put]) HK5.out (RAB.out) (oneCell_cells5 _) (by unfold maxLen; omega) (by omega) (by first | exact HS0.out | exact B4.size | exact (B4.alloc B4.size _).size | exact B5.size | (simp <;> omega)) ?_; intro v4 w4 o4 g4w _; have B4 := BBB.out.grown g4w BBB.out.size (fun j hj => (OB.out.lt j hj).1); have RX4 := rd_grown g4w RXB.out (by simp <;> omega) (by simp [Value.ownBlock]))
  | (refine step_app rfl (.tmp 23) (.tmp 26) 24 rfl w.heap.size 36 _ 5 40 Try.underlying24 info36 rfl (by omega) (.slice (some ⟨w.heap.size + 1, 0, none⟩) 0 0) 0 [] (by simp [Act.eval, Act.put]) (by with_reducible exact OC.out) (some ⟨g, o, none⟩) k c (cells5 (xs.take k)) (by simp [Act.eval, Act.put]) HK5.out (RAC.out) (oneCell_cells5 _) (by unfold maxLen; omega) (by omega) (by first | exact HS0.out | exact B4.size | exact (B4.alloc B4.size _).size | exact B5.size | (simp <;> omega)) ?_; intro v4 w4 o4 g4w _; have B4 := BBC.out.grown g4w BBC.out.size (fun j hj => (OC.out.lt j hj).1); have RX4 := rd_grown g4w RXC.out (by simp <;> omega) (by simp [Value.ownBlock]))
  | (refine step_app rfl (.tmp 27) (.tmp 31) 24 rfl w.heap.size 36 _ 5 40 Try.underlying24 info36 rfl (by omega) v4 _ _ (by simp [Act.eval, Act.put]) (by with_reducible exact o4.alloc _) (some ⟨w4.heap.size, 0, none⟩) 1 1 (⟨id, rv, 0, 0, 0⟩ : R5).cells (by simp [Act.eval, Act.put]) HX5.out (rd_new #[.int .i64 id, .int .i64 rv, .int .i64 0, .int .i64 0, .int .i64 0] 36 rfl) (oneCell_x (⟨id, rv, 0, 0, 0⟩ : R5)) (by unfold maxLen; omega) (by omega) (by first | exact HS0.out | exact B4.size | exact (B4.alloc B4.size _).size | exact B5.size | (simp <;> omega)) ?_; intro v5 w5 o5 g5w _; have B5 : Below w.heap.size w w5 := (B4.alloc B4.size _).grown g5w (B4.alloc B4.size _).size (fun j hj => (o4.lt j hj).1))
  | (refine step_app rfl (.tmp 27) (.tmp 31) 24 rfl w.heap.size 36 _ 5 40 Try.underlying24 info36 rfl (by omega) v4 _ _ (by simp [Act.eval, Act.put]) (by with_reducible exact o4) (some ⟨(w.heap.size + 1), 0, none⟩) 1 1 (⟨id, rv, 0, 0, 0⟩ : R5).cells (by simp [Act.eval, Act.put]) HX5.out (RX4) (oneCell_x (⟨id, rv, 0, 0, 0⟩ : R5)) (by unfold maxLen; omega) (by omega) (by first | exact HS0.out | exact B4.size | exact (B4.alloc B4.size _).size | exact B5.size | (simp <;> omega)) ?_; intro v5 w5 o5 g5w _; have B5 : Below w.heap.size w w5 := B4.grown g5w B4.size (fun j hj => (o4.lt j hj).1))
  | (refine step_app rfl (.tmp 27) (.tmp 31) 24 rfl w.heap.size 36 _ 5 40 Try.underlying24 info36 rfl (by omega) v4 _ _ (by simp [Act.eval, Act.put]) (by with_reducible exact o4) (some ⟨w.heap.size, 0, none⟩) 1 1 (⟨id, rv, 0, 0, 0⟩ : R5).cells (by simp [Act.eval, Act.put]) HX5.out (RX4) (oneCell_x (⟨id, rv, 0, 0, 0⟩ : R5)) (by unfold maxLen; omega) (by omega) (by first | exact HS0.out | exact B4.size | exact (B4.alloc B4.size _).size | exact B5.size | (simp <;> omega)) ?_; intro v5 w5 o5 g5w _; have B5 : Below w.heap.size w w5 := B4.grown g5w B4.size (fun j hj => (o4.lt j hj).1))
  | (refine step_app rfl (.tmp 32) (.tmp 35) 24 rfl w.heap.size 36 _ 5 40 Try.underlying24 info36 rfl (by omega) v5 _ _ (by simp [Act.eval, Act.put]) (by with_reducible exact o5) (some ⟨g, o + k * 5, none⟩) (n - k) (c - k) (cells5 (xs.drop k)) (by simp [Act.eval, Act.put]) HD5.out (rd_dropT (HA.out.below B5) k) (oneCell_cells5 _) (by unfold maxLen; omega) (by omega) (by first | exact HS0.out | exact B4.size | exact (B4.alloc B4.size _).size | exact B5.size | (simp <;> omega)) ?_; intro v6 w6 o6 g6w _; have B6 : Below w.heap.size w w6 := B5.grown g6w B5.size (fun j hj => (o5.lt j hj).1)))
        all_goals go_goals
        all_goals (
          have EC : [] ++ cells5 (xs.take k) ++ (⟨id, rv, 0, 0, 0⟩ : R5).cells ++ cells5 (xs.drop k) = cells5 (puA xs id rv) := by rw [puA, HPX.out, cells5_append, cells5_cons, List.nil_append, List.append_assoc]
          have EN : 0 + k + 1 + (n - k) = n + 1 := by omega
          rw [EC, EN] at o6
          have HO6 := Lib.hid o6
          have HB6 := Lib.hid B6
          clear EC EN o6 o5 o4 g4w g5w g6w B4 B5 B6 OA OB OC BBA BBB BBC RAA RAB RAC
          go_wp2
          go_ret
          exact ⟨_, rfl, HO6.out, HB6.out⟩)
    · obtain rfl : n = k := by omega
      have HPX := Lib.hid (posA_eq (i := id) (xs := xs) (k := n) (by have := HN.out; omega) H1.out (fun u hu => by have := (List.getElem?_eq_some_iff.1 hu).1; have := HN.out; omega))
      rcases Nat.eq_zero_or_pos n with rfl | hpos
      · rcases A with _ | ⟨g, o, p⟩
        · go_wp2_with fail
          have HK5 := Lib.hid (show (cells5 (xs.take 0)).length = 0 * 5 by have h1 := HN.out; have h2 := length_cells5 (xs.take 0); rw [List.length_take] at h2; omega)
          have HD5 := Lib.hid (show (cells5 (xs.drop 0)).length = 0 * 5 by have h1 := HN.out; have h2 := length_cells5 (xs.drop 0); rw [List.length_drop] at h2; omega)
          have HX5 := Lib.hid (show (⟨id, rv, 0, 0, 0⟩ : R5).cells.length = 1 * 5 from rfl)
          have HS0 := Lib.hid (Nat.le_refl w.heap.size)
          have OA : Hid (((w.alloc (.cells #[] 36)).drew).ownsRow w.heap.size 36 5 (.slice (some ⟨w.heap.size, 0, none⟩) 0 0) 0 []) := Lib.hid (own_empty w _ _ _ (Nat.le_refl _))
          have BBA : Hid (Below w.heap.size w ((w.alloc (.cells #[] 36)).drew)) := Lib.hid ((Below.refl _ _).alloc (Nat.le_refl _) _).drew
          have RAA : Hid (Rd ((w.alloc (.cells #[] 36)).drew) none (cells5 (xs.take 0))) := Lib.hid (by have := HN.out; rw [List.length_eq_zero_iff.1 this]; exact .inl rfl)
          have OB : Hid ((((w.alloc (.cells #[] 36)).alloc (.cells #[.int .i64 id, .int .i64 rv, .int .i64 0, .int .i64 0, .int .i64 0] 36)).drew).ownsRow w.heap.size 36 5 (.slice (some ⟨w.heap.size, 0, none⟩) 0 0) 0 []) := Lib.hid ((own_empty w _ _ _ (Nat.le_refl _)).alloc _)
          have BBB : Hid (Below w.heap.size w (((w.alloc (.cells #[] 36)).alloc (.cells #[.int .i64 id, .int .i64 rv, .int .i64 0, .int .i64 0, .int .i64 0] 36)).drew)) := Lib.hid ((((Below.refl _ _).alloc (Nat.le_refl _) _).alloc (by simp) _).drew)
          have RXB : Hid (Rd (((w.alloc (.cells #[] 36)).alloc (.cells #[.int .i64 id, .int .i64 rv, .int .i64 0, .int .i64 0, .int .i64 0] 36)).drew) (some ⟨w.heap.size + 1, 0, none⟩) (⟨id, rv, 0, 0, 0⟩ : R5).cells) := Lib.hid (rd_new #[.int .i64 id, .int .i64 rv, .int .i64 0, .int .i64 0, .int .i64 0] 36 (by simp))
          have RAB : Hid (Rd (((w.alloc (.cells #[] 36)).alloc (.cells #[.int .i64 id, .int .i64 rv, .int .i64 0, .int .i64 0, .int .i64 0] 36)).drew) none (cells5 (xs.take 0))) := Lib.hid (by have := HN.out; rw [List.length_eq_zero_iff.1 this]; exact .inl rfl)
          have OC : Hid ((((w.alloc (.cells #[.int .i64 id, .int .i64 rv, .int .i64 0, .int .i64 0, .int .i64 0] 36)).alloc (.cells #[] 36)).drew).ownsRow w.heap.size 36 5 (.slice (some ⟨(w.heap.size + 1), 0, none⟩) 0 0) 0 []) := Lib.hid (own_empty' (by simp) (by simp))
          have BBC : Hid (Below w.heap.size w (((w.alloc (.cells #[.int .i64 id, .int .i64 rv, .int .i64 0, .int .i64 0, .int .i64 0] 36)).alloc (.cells #[] 36)).drew)) := Lib.hid ((((Below.refl _ _).alloc (Nat.le_refl _) _).alloc (by simp) _).drew)
          have RXC : Hid (Rd (((w.alloc (.cells #[.int .i64 id, .int .i64 rv, .int .i64 0, .int .i64 0, .int .i64 0] 36)).alloc (.cells #[] 36)).drew) (some ⟨w.heap.size, 0, none⟩) (⟨id, rv, 0, 0, 0⟩ : R5).cells) := Lib.hid ((rd_new #[.int .i64 id, .int .i64 rv, .int .i64 0, .int .i64 0, .int .i64 0] 36 rfl).alloc _)
          have RAC : Hid (Rd (((w.alloc (.cells #[.int .i64 id, .int .i64 rv, .int .i64 0, .int .i64 0, .int .i64 0] 36)).alloc (.cells #[] 36)).drew) none (cells5 (xs.take 0))) := Lib.hid (by have := HN.out; rw [List.length_eq_zero_iff.1 this]; exact .inl rfl)
          go_region_held3 (fun w' => True) (first | go_keep | trivial) (first
  | (refine step_app rfl (.tmp 23) (.tmp 26) 24 rfl w.heap.size 36 _ 5 40 Try.underlying24 info36 rfl (by omega) (.slice (some ⟨w.heap.size, 0, none⟩) 0 0) 0 [] (by simp [Act.eval, Act.put]) (by with_reducible exact OA.out) none 0 c (cells5 (xs.take 0)) (by simp [Act.eval, Act.put]) HK5.out (RAA.out) (oneCell_cells5 _) (by unfold maxLen; omega) (by omega) (by first | exact HS0.out | exact B4.size | exact (B4.alloc B4.size _).size | exact B5.size | (simp <;> omega)) ?_; intro v4 w4 o4 g4w _; have B4 := BBA.out.grown g4w BBA.out.size (fun j hj => (OA.out.lt j hj).1))
  | (refine step_app rfl (.tmp 23) (.tmp 26) 24 rfl w.heap.size 36 _ 5 40 Try.underlying24 info36 rfl (by omega) (.slice (some ⟨w.heap.size, 0, none⟩) 0 0) 0 [] (by simp [Act.eval, Act.put]) (by with_reducible exact OB.out) none 0 c (cells5 (xs.take 0)) (by simp [Act.eval, Act.put]) HK5.out (RAB.out) (oneCell_cells5 _) (by unfold maxLen; omega) (by omega) (by first | exact HS0.out | exact B4.size | exact (B4.alloc B4.size _).size | exact B5.size | (simp <;> omega)) ?_; intro v4 w4 o4 g4w _; have B4 := BBB.out.grown g4w BBB.out.size (fun j hj => (OB.out.lt j hj).1); have RX4 := rd_grown g4w RXB.out (by simp <;> omega) (by simp [Value.ownBlock]))
  | (refine step_app rfl (.tmp 23) (.tmp 26) 24 rfl w.heap.size 36 _ 5 40 Try.underlying24 info36 rfl (by omega) (.slice (some ⟨w.heap.size + 1, 0, none⟩) 0 0) 0 [] (by simp [Act.eval, Act.put]) (by with_reducible exact OC.out) none 0 c (cells5 (xs.take 0)) (by simp [Act.eval, Act.put]) HK5.out (RAC.out) (oneCell_cells5 _) (by unfold maxLen; omega) (by omega) (by first | exact HS0.out | exact B4.size | exact (B4.alloc B4.size _).size | exact B5.size | (simp <;> omega)) ?_; intro v4 w4 o4 g4w _; have B4 := BBC.out.grown g4w BBC.out.size (fun j hj => (OC.out.lt j hj).1); have RX4 := rd_grown g4w RXC.out (by simp <;> omega) (by simp [Value.ownBlock]))
  | (refine step_app rfl (.tmp 27) (.tmp 31) 24 rfl w.heap.size 36 _ 5 40 Try.underlying24 info36 rfl (by omega) v4 _ _ (by simp [Act.eval, Act.put]) (by with_reducible exact o4.alloc _) (some ⟨w4.heap.size, 0, none⟩) 1 1 (⟨id, rv, 0, 0, 0⟩ : R5).cells (by simp [Act.eval, Act.put]) HX5.out (rd_new #[.int .i64 id, .int .i64 rv, .int .i64 0, .int .i64 0, .int .i64 0] 36 rfl) (oneCell_x (⟨id, rv, 0, 0, 0⟩ : R5)) (by unfold maxLen; omega) (by omega) (by first | exact HS0.out | exact B4.size | exact (B4.alloc B4.size _).size | exact B5.size | (simp <;> omega)) ?_; intro v5 w5 o5 g5w _; have B5 : Below w.heap.size w w5 := (B4.alloc B4.size _).grown g5w (B4.alloc B4.size _).size (fun j hj => (o4.lt j hj).1))
  | (refine step_app rfl (.tmp 27) (.tmp 31) 24 rfl w.heap.size 36 _ 5 40 Try.underlying24 info36 rfl (by omega) v4 _ _ (by simp [Act.eval, Act.put]) (by with_reducible exact o4) (some ⟨(w.heap.size + 1), 0, none⟩) 1 1 (⟨id, rv, 0, 0, 0⟩ : R5).cells (by simp [Act.eval, Act.put]) HX5.out (RX4) (oneCell_x (⟨id, rv, 0, 0, 0⟩ : R5)) (by unfold maxLen; omega) (by omega) (by first | exact HS0.out | exact B4.size | exact (B4.alloc B4.size _).size | exact B5.size | (simp <;> omega)) ?_; intro v5 w5 o5 g5w _; have B5 : Below w.heap.size w w5 := B4.grown g5w B4.size (fun j hj => (o4.lt j hj).1))
  | (refine step_app rfl (.tmp 27) (.tmp 31) 24 rfl w.heap.size 36 _ 5 40 Try.underlying24 info36 rfl (by omega) v4 _ _ (by simp [Act.eval, Act.put]) (by with_reducible exact o4) (some ⟨w.heap.size, 0, none⟩) 1 1 (⟨id, rv, 0, 0, 0⟩ : R5).cells (by simp [Act.eval, Act.put]) HX5.out (RX4) (oneCell_x (⟨id, rv, 0, 0, 0⟩ : R5)) (by unfold maxLen; omega) (by omega) (by first | exact HS0.out | exact B4.size | exact (B4.alloc B4.size _).size | exact B5.size | (simp <;> omega)) ?_; intro v5 w5 o5 g5w _; have B5 : Below w.heap.size w w5 := B4.grown g5w B4.size (fun j hj => (o4.lt j hj).1))
  | (refine step_app rfl (.tmp 32) (.tmp 35) 24 rfl w.heap.size 36 _ 5 40 Try.underlying24 info36 rfl (by omega) v5 _ _ (by simp [Act.eval, Act.put]) (by with_reducible exact o5) none 0 c (cells5 (xs.drop 0)) (by simp [Act.eval, Act.put]) HD5.out (by have := HN.out; rw [List.length_eq_zero_iff.1 this]; exact .inl rfl) (oneCell_cells5 _) (by unfold maxLen; omega) (by omega) (by first | exact HS0.out | exact B4.size | exact (B4.alloc B4.size _).size | exact B5.size | (simp <;> omega)) ?_; intro v6 w6 o6 g6w _; have B6 : Below w.heap.size w w6 := B5.grown g6w B5.size (fun j hj => (o5.lt j hj).1)))
          all_goals go_goals
          all_goals (
            have EC : [] ++ cells5 (xs.take 0) ++ (⟨id, rv, 0, 0, 0⟩ : R5).cells ++ cells5 (xs.drop 0) = cells5 (puA xs id rv) := by rw [puA, HPX.out, cells5_append, cells5_cons, List.nil_append, List.append_assoc]
            have EN : 0 + 0 + 1 + 0 = 0 + 1 := by omega
            rw [EC, EN] at o6
            have HO6 := Lib.hid o6
            have HB6 := Lib.hid B6
            clear EC EN o6 o5 o4 g4w g5w g6w B4 B5 B6 OA OB OC BBA BBB BBC RAA RAB RAC
            go_wp2
            go_ret
            exact ⟨_, rfl, HO6.out, HB6.out⟩)
        · go_wp2_with fail
          have HK5 := Lib.hid (show (cells5 (xs.take 0)).length = 0 * 5 by have h1 := HN.out; have h2 := length_cells5 (xs.take 0); rw [List.length_take] at h2; omega)
          have HD5 := Lib.hid (show (cells5 (xs.drop 0)).length = 0 * 5 by have h1 := HN.out; have h2 := length_cells5 (xs.drop 0); rw [List.length_drop] at h2; omega)
          have HX5 := Lib.hid (show (⟨id, rv, 0, 0, 0⟩ : R5).cells.length = 1 * 5 from rfl)
          have HS0 := Lib.hid (Nat.le_refl w.heap.size)
          have OA : Hid (((w.alloc (.cells #[] 36)).drew).ownsRow w.heap.size 36 5 (.slice (some ⟨w.heap.size, 0, none⟩) 0 0) 0 []) := Lib.hid (own_empty w _ _ _ (Nat.le_refl _))
          have BBA : Hid (Below w.heap.size w ((w.alloc (.cells #[] 36)).drew)) := Lib.hid ((Below.refl _ _).alloc (Nat.le_refl _) _).drew
          have RAA : Hid (Rd ((w.alloc (.cells #[] 36)).drew) (some ⟨g, o, p⟩) (cells5 (xs.take 0))) := Lib.hid (by have := HN.out; rw [List.length_eq_zero_iff.1 this]; exact .inl rfl)
          have OB : Hid ((((w.alloc (.cells #[] 36)).alloc (.cells #[.int .i64 id, .int .i64 rv, .int .i64 0, .int .i64 0, .int .i64 0] 36)).drew).ownsRow w.heap.size 36 5 (.slice (some ⟨w.heap.size, 0, none⟩) 0 0) 0 []) := Lib.hid ((own_empty w _ _ _ (Nat.le_refl _)).alloc _)
          have BBB : Hid (Below w.heap.size w (((w.alloc (.cells #[] 36)).alloc (.cells #[.int .i64 id, .int .i64 rv, .int .i64 0, .int .i64 0, .int .i64 0] 36)).drew)) := Lib.hid ((((Below.refl _ _).alloc (Nat.le_refl _) _).alloc (by simp) _).drew)
          have RXB : Hid (Rd (((w.alloc (.cells #[] 36)).alloc (.cells #[.int .i64 id, .int .i64 rv, .int .i64 0, .int .i64 0, .int .i64 0] 36)).drew) (some ⟨w.heap.size + 1, 0, none⟩) (⟨id, rv, 0, 0, 0⟩ : R5).cells) := Lib.hid (rd_new #[.int .i64 id, .int .i64 rv, .int .i64 0, .int .i64 0, .int .i64 0] 36 (by simp))
          have RAB : Hid (Rd (((w.alloc (.cells #[] 36)).alloc (.cells #[.int .i64 id, .int .i64 rv, .int .i64 0, .int .i64 0, .int .i64 0] 36)).drew) (some ⟨g, o, p⟩) (cells5 (xs.take 0))) := Lib.hid (by have := HN.out; rw [List.length_eq_zero_iff.1 this]; exact .inl rfl)
          have OC : Hid ((((w.alloc (.cells #[.int .i64 id, .int .i64 rv, .int .i64 0, .int .i64 0, .int .i64 0] 36)).alloc (.cells #[] 36)).drew).ownsRow w.heap.size 36 5 (.slice (some ⟨(w.heap.size + 1), 0, none⟩) 0 0) 0 []) := Lib.hid (own_empty' (by simp) (by simp))
          have BBC : Hid (Below w.heap.size w (((w.alloc (.cells #[.int .i64 id, .int .i64 rv, .int .i64 0, .int .i64 0, .int .i64 0] 36)).alloc (.cells #[] 36)).drew)) := Lib.hid ((((Below.refl _ _).alloc (Nat.le_refl _) _).alloc (by simp) _).drew)
          have RXC : Hid (Rd (((w.alloc (.cells #[.int .i64 id, .int .i64 rv, .int .i64 0, .int .i64 0, .int .i64 0] 36)).alloc (.cells #[] 36)).drew) (some ⟨w.heap.size, 0, none⟩) (⟨id, rv, 0, 0, 0⟩ : R5).cells) := Lib.hid ((rd_new #[.int .i64 id, .int .i64 rv, .int .i64 0, .int .i64 0, .int .i64 0] 36 rfl).alloc _)
          have RAC : Hid (Rd (((w.alloc (.cells #[.int .i64 id, .int .i64 rv, .int .i64 0, .int .i64 0, .int .i64 0] 36)).alloc (.cells #[] 36)).drew) (some ⟨g, o, p⟩) (cells5 (xs.take 0))) := Lib.hid (by have := HN.out; rw [List.length_eq_zero_iff.1 this]; exact .inl rfl)
          go_region_held3 (fun w' => True) (first | go_keep | trivial) (first
  | (refine step_app rfl (.tmp 23) (.tmp 26) 24 rfl w.heap.size 36 _ 5 40 Try.underlying24 info36 rfl (by omega) (.slice (some ⟨w.heap.size, 0, none⟩) 0 0) 0 [] (by simp [Act.eval, Act.put]) (by with_reducible exact OA.out) (some ⟨g, o, p⟩) 0 c (cells5 (xs.take 0)) (by simp [Act.eval, Act.put]) HK5.out (RAA.out) (oneCell_cells5 _) (by unfold maxLen; omega) (by omega) (by first | exact HS0.out | exact B4.size | exact (B4.alloc B4.size _).size | exact B5.size | (simp <;> omega)) ?_; intro v4 w4 o4 g4w _; have B4 := BBA.out.grown g4w BBA.out.size (fun j hj => (OA.out.lt j hj).1))
  | (refine step_app rfl (.tmp 23) (.tmp 26) 24 rfl w.heap.size 36 _ 5 40 Try.underlying24 info36 rfl (by omega) (.slice (some ⟨w.heap.size, 0, none⟩) 0 0) 0 [] (by simp [Act.eval, Act.put]) (by with_reducible exact OB.out) (some ⟨g, o, p⟩) 0 c (cells5 (xs.take 0)) (by simp [Act.eval, Act.put]) HK5.out (RAB.out) (oneCell_cells5 _) (by unfold maxLen; omega) (by omega) (by first | exact HS0.out | exact B4.size | exact (B4.alloc B4.size _).size | exact B5.size | (simp <;> omega)) ?_; intro v4 w4 o4 g4w _; have B4 := BBB.out.grown g4w BBB.out.size (fun j hj => (OB.out.lt j hj).1); have RX4 := rd_grown g4w RXB.out (by simp <;> omega) (by simp [Value.ownBlock]))
  | (refine step_app rfl (.tmp 23) (.tmp 26) 24 rfl w.heap.size 36 _ 5 40 Try.underlying24 info36 rfl (by omega) (.slice (some ⟨w.heap.size + 1, 0, none⟩) 0 0) 0 [] (by simp [Act.eval, Act.put]) (by with_reducible exact OC.out) (some ⟨g, o, p⟩) 0 c (cells5 (xs.take 0)) (by simp [Act.eval, Act.put]) HK5.out (RAC.out) (oneCell_cells5 _) (by unfold maxLen; omega) (by omega) (by first | exact HS0.out | exact B4.size | exact (B4.alloc B4.size _).size | exact B5.size | (simp <;> omega)) ?_; intro v4 w4 o4 g4w _; have B4 := BBC.out.grown g4w BBC.out.size (fun j hj => (OC.out.lt j hj).1); have RX4 := rd_grown g4w RXC.out (by simp <;> omega) (by simp [Value.ownBlock]))
  | (refine step_app rfl (.tmp 27) (.tmp 31) 24 rfl w.heap.size 36 _ 5 40 Try.underlying24 info36 rfl (by omega) v4 _ _ (by simp [Act.eval, Act.put]) (by with_reducible exact o4.alloc _) (some ⟨w4.heap.size, 0, none⟩) 1 1 (⟨id, rv, 0, 0, 0⟩ : R5).cells (by simp [Act.eval, Act.put]) HX5.out (rd_new #[.int .i64 id, .int .i64 rv, .int .i64 0, .int .i64 0, .int .i64 0] 36 rfl) (oneCell_x (⟨id, rv, 0, 0, 0⟩ : R5)) (by unfold maxLen; omega) (by omega) (by first | exact HS0.out | exact B4.size | exact (B4.alloc B4.size _).size | exact B5.size | (simp <;> omega)) ?_; intro v5 w5 o5 g5w _; have B5 : Below w.heap.size w w5 := (B4.alloc B4.size _).grown g5w (B4.alloc B4.size _).size (fun j hj => (o4.lt j hj).1))
  | (refine step_app rfl (.tmp 27) (.tmp 31) 24 rfl w.heap.size 36 _ 5 40 Try.underlying24 info36 rfl (by omega) v4 _ _ (by simp [Act.eval, Act.put]) (by with_reducible exact o4) (some ⟨(w.heap.size + 1), 0, none⟩) 1 1 (⟨id, rv, 0, 0, 0⟩ : R5).cells (by simp [Act.eval, Act.put]) HX5.out (RX4) (oneCell_x (⟨id, rv, 0, 0, 0⟩ : R5)) (by unfold maxLen; omega) (by omega) (by first | exact HS0.out | exact B4.size | exact (B4.alloc B4.size _).size | exact B5.size | (simp <;> omega)) ?_; intro v5 w5 o5 g5w _; have B5 : Below w.heap.size w w5 := B4.grown g5w B4.size (fun j hj => (o4.lt j hj).1))
  | (refine step_app rfl (.tmp 27) (.tmp 31) 24 rfl w.heap.size 36 _ 5 40 Try.underlying24 info36 rfl (by omega) v4 _ _ (by simp [Act.eval, Act.put]) (by with_reducible exact o4) (some ⟨w.heap.size, 0, none⟩) 1 1 (⟨id, rv, 0, 0, 0⟩ : R5).cells (by simp [Act.eval, Act.put]) HX5.out (RX4) (oneCell_x (⟨id, rv, 0, 0, 0⟩ : R5)) (by unfold maxLen; omega) (by omega) (by first | exact HS0.out | exact B4.size | exact (B4.alloc B4.size _).size | exact B5.size | (simp <;> omega)) ?_; intro v5 w5 o5 g5w _; have B5 : Below w.heap.size w w5 := B4.grown g5w B4.size (fun j hj => (o4.lt j hj).1))
  | (refine step_app rfl (.tmp 32) (.tmp 35) 24 rfl w.heap.size 36 _ 5 40 Try.underlying24 info36 rfl (by omega) v5 _ _ (by simp [Act.eval, Act.put]) (by with_reducible exact o5) (some ⟨g, o, p⟩) 0 c (cells5 (xs.drop 0)) (by simp [Act.eval, Act.put]) HD5.out (by have := HN.out; rw [List.length_eq_zero_iff.1 this]; exact .inl rfl) (oneCell_cells5 _) (by unfold maxLen; omega) (by omega) (by first | exact HS0.out | exact B4.size | exact (B4.alloc B4.size _).size | exact B5.size | (simp <;> omega)) ?_; intro v6 w6 o6 g6w _; have B6 : Below w.heap.size w w6 := B5.grown g6w B5.size (fun j hj => (o5.lt j hj).1)))
          all_goals go_goals
          all_goals (
            have EC : [] ++ cells5 (xs.take 0) ++ (⟨id, rv, 0, 0, 0⟩ : R5).cells ++ cells5 (xs.drop 0) = cells5 (puA xs id rv) := by rw [puA, HPX.out, cells5_append, cells5_cons, List.nil_append, List.append_assoc]
            have EN : 0 + 0 + 1 + 0 = 0 + 1 := by omega
            rw [EC, EN] at o6
            have HO6 := Lib.hid o6
            have HB6 := Lib.hid B6
            clear EC EN o6 o5 o4 g4w g5w g6w B4 B5 B6 OA OB OC BBA BBB BBC RAA RAB RAC
            go_wp2
            go_ret
            exact ⟨_, rfl, HO6.out, HB6.out⟩)
      · obtain ⟨y, hy⟩ : ∃ y, xs[n - 1]? = some y := ⟨xs[n - 1]'(by have := HN.out; omega), List.getElem?_eq_getElem _⟩
        obtain ⟨g, o, hAe, hg, -, -, -, -, -⟩ := HA.out.at5 hy
        subst hAe
        clear hy
        by_cases hcn : c = n
        · subst hcn
          go_wp2_with fail
          have HK5 := Lib.hid (show (cells5 (xs.take c)).length = c * 5 by have h1 := HN.out; have h2 := length_cells5 (xs.take c); rw [List.length_take] at h2; omega)
          have HD5 := Lib.hid (show (cells5 (xs.drop c)).length = 0 * 5 by have h1 := HN.out; have h2 := length_cells5 (xs.drop c); rw [List.length_drop] at h2; omega)
          have HX5 := Lib.hid (show (⟨id, rv, 0, 0, 0⟩ : R5).cells.length = 1 * 5 from rfl)
          have HS0 := Lib.hid (Nat.le_refl w.heap.size)
          have OA : Hid (((w.alloc (.cells #[] 36)).drew).ownsRow w.heap.size 36 5 (.slice (some ⟨w.heap.size, 0, none⟩) 0 0) 0 []) := Lib.hid (own_empty w _ _ _ (Nat.le_refl _))
          have BBA : Hid (Below w.heap.size w ((w.alloc (.cells #[] 36)).drew)) := Lib.hid ((Below.refl _ _).alloc (Nat.le_refl _) _).drew
          have RAA : Hid (Rd ((w.alloc (.cells #[] 36)).drew) (some ⟨g, o, none⟩) (cells5 (xs.take c))) := Lib.hid (rd_takeT (HA.out.below BBA.out) c)
          have OB : Hid ((((w.alloc (.cells #[] 36)).alloc (.cells #[.int .i64 id, .int .i64 rv, .int .i64 0, .int .i64 0, .int .i64 0] 36)).drew).ownsRow w.heap.size 36 5 (.slice (some ⟨w.heap.size, 0, none⟩) 0 0) 0 []) := Lib.hid ((own_empty w _ _ _ (Nat.le_refl _)).alloc _)
          have BBB : Hid (Below w.heap.size w (((w.alloc (.cells #[] 36)).alloc (.cells #[.int .i64 id, .int .i64 rv, .int .i64 0, .int .i64 0, .int .i64 0] 36)).drew)) := Lib.hid ((((Below.refl _ _).alloc (Nat.le_refl _) _).alloc (by simp) _).drew)
          have RXB : Hid (Rd (((w.alloc (.cells #[] 36)).alloc (.cells #[.int .i64 id, .int .i64 rv, .int .i64 0, .int .i64 0, .int .i64 0] 36)).drew) (some ⟨w.heap.size + 1, 0, none⟩) (⟨id, rv, 0, 0, 0⟩ : R5).cells) := Lib.hid (rd_new #[.int .i64 id, .int .i64 rv, .int .i64 0, .int .i64 0, .int .i64 0] 36 (by simp))
          have RAB : Hid (Rd (((w.alloc (.cells #[] 36)).alloc (.cells #[.int .i64 id, .int .i64 rv, .int .i64 0, .int .i64 0, .int .i64 0] 36)).drew) (some ⟨g, o, none⟩) (cells5 (xs.take c))) := Lib.hid (rd_takeT (HA.out.below BBB.out) c)
          have OC : Hid ((((w.alloc (.cells #[.int .i64 id, .int .i64 rv, .int .i64 0, .int .i64 0, .int .i64 0] 36)).alloc (.cells #[] 36)).drew).ownsRow w.heap.size 36 5 (.slice (some ⟨(w.heap.size + 1), 0, none⟩) 0 0) 0 []) := Lib.hid (own_empty' (by simp) (by simp))
          have BBC : Hid (Below w.heap.size w (((w.alloc (.cells #[.int .i64 id, .int .i64 rv, .int .i64 0, .int .i64 0, .int .i64 0] 36)).alloc (.cells #[] 36)).drew)) := Lib.hid ((((Below.refl _ _).alloc (Nat.le_refl _) _).alloc (by simp) _).drew)
          have RXC : Hid (Rd (((w.alloc (.cells #[.int .i64 id, .int .i64 rv, .int .i64 0, .int .i64 0, .int .i64 0] 36)).alloc (.cells #[] 36)).drew) (some ⟨w.heap.size, 0, none⟩) (⟨id, rv, 0, 0, 0⟩ : R5).cells) := Lib.hid ((rd_new #[.int .i64 id, .int .i64 rv, .int .i64 0, .int .i64 0, .int .i64 0] 36 rfl).alloc _)
          have RAC : Hid (Rd (((w.alloc (.cells #[.int .i64 id, .int .i64 rv, .int .i64 0, .int .i64 0, .int .i64 0] 36)).alloc (.cells #[] 36)).drew) (some ⟨g, o, none⟩) (cells5 (xs.take c))) := Lib.hid (rd_takeT (HA.out.below BBC.out) c)
          go_region_held3 (fun w' => True) (first | go_keep | trivial) (first
  | (refine step_app rfl (.tmp 23) (.tmp 26) 24 rfl w.heap.size 36 _ 5 40 Try.underlying24 info36 rfl (by omega) (.slice (some ⟨w.heap.size, 0, none⟩) 0 0) 0 [] (by simp [Act.eval, Act.put]) (by with_reducible exact OA.out) (some ⟨g, o, none⟩) c c (cells5 (xs.take c)) (by simp [Act.eval, Act.put]) HK5.out (RAA.out) (oneCell_cells5 _) (by unfold maxLen; omega) (by omega) (by first | exact HS0.out | exact B4.size | exact (B4.alloc B4.size _).size | exact B5.size | (simp <;> omega)) ?_; intro v4 w4 o4 g4w _; have B4 := BBA.out.grown g4w BBA.out.size (fun j hj => (OA.out.lt j hj).1))
  | (refine step_app rfl (.tmp 23) (.tmp 26) 24 rfl w.heap.size 36 _ 5 40 Try.underlying24 info36 rfl (by omega) (.slice (some ⟨w.heap.size, 0, none⟩) 0 0) 0 [] (by simp [Act.eval, Act.put]) (by with_reducible exact OB.out) (some ⟨g, o, none⟩) c c (cells5 (xs.take c)) (by simp [Act.eval, Act.put]) HK5.out (RAB.out) (oneCell_cells5 _) (by unfold maxLen; omega) (by omega) (by first | exact HS0.out | exact B4.size | exact (B4.alloc B4.size _).size | exact B5.size | (simp <;> omega)) ?_; intro v4 w4 o4 g4w _; have B4 := BBB.out.grown g4w BBB.out.size (fun j hj => (OB.out.lt j hj).1); have RX4 := rd_grown g4w RXB.out (by simp <;> omega) (by simp [Value.ownBlock]))
  | (refine step_app rfl (.tmp 23) (.tmp 26) 24 rfl w.heap.size 36 _ 5 40 Try.underlying24 info36 rfl (by omega) (.slice (some ⟨w.heap.size + 1, 0, none⟩) 0 0) 0 [] (by simp [Act.eval, Act.put]) (by with_reducible exact OC.out) (some ⟨g, o, none⟩) c c (cells5 (xs.take c)) (by simp [Act.eval, Act.put]) HK5.out (RAC.out) (oneCell_cells5 _) (by unfold maxLen; omega) (by omega) (by first | exact HS0.out | exact B4.size | exact (B4.alloc B4.size _).size | exact B5.size | (simp <;> omega)) ?_; intro v4 w4 o4 g4w _; have B4 := BBC.out.grown g4w BBC.out.size (fun j hj => (OC.out.lt j hj).1); have RX4 := rd_grown g4w RXC.out (by simp <;> omega) (by simp [Value.ownBlock]))
  | (refine step_app rfl (.tmp 27) (.tmp 31) 24 rfl w.heap.size 36 _ 5 40 Try.underlying24 info36 rfl (by omega) v4 _ _ (by simp [Act.eval, Act.put]) (by with_reducible exact o4.alloc _) (some ⟨w4.heap.size, 0, none⟩) 1 1 (⟨id, rv, 0, 0, 0⟩ : R5).cells (by simp [Act.eval, Act.put]) HX5.out (rd_new #[.int .i64 id, .int .i64 rv, .int .i64 0, .int .i64 0, .int .i64 0] 36 rfl) (oneCell_x (⟨id, rv, 0, 0, 0⟩ : R5)) (by unfold maxLen; omega) (by omega) (by first | exact HS0.out | exact B4.size | exact (B4.alloc B4.size _).size | exact B5.size | (simp <;> omega)) ?_; intro v5 w5 o5 g5w _; have B5 : Below w.heap.size w w5 := (B4.alloc B4.size _).grown g5w (B4.alloc B4.size _).size (fun j hj => (o4.lt j hj).1))
  | (refine step_app rfl (.tmp 27) (.tmp 31) 24 rfl w.heap.size 36 _ 5 40 Try.underlying24 info36 rfl (by omega) v4 _ _ (by simp [Act.eval, Act.put]) (by with_reducible exact o4) (some ⟨(w.heap.size + 1), 0, none⟩) 1 1 (⟨id, rv, 0, 0, 0⟩ : R5).cells (by simp [Act.eval, Act.put]) HX5.out (RX4) (oneCell_x (⟨id, rv, 0, 0, 0⟩ : R5)) (by unfold maxLen; omega) (by omega) (by first | exact HS0.out | exact B4.size | exact (B4.alloc B4.size _).size | exact B5.size | (simp <;> omega)) ?_; intro v5 w5 o5 g5w _; have B5 : Below w.heap.size w w5 := B4.grown g5w B4.size (fun j hj => (o4.lt j hj).1))
  | (refine step_app rfl (.tmp 27) (.tmp 31) 24 rfl w.heap.size 36 _ 5 40 Try.underlying24 info36 rfl (by omega) v4 _ _ (by simp [Act.eval, Act.put]) (by with_reducible exact o4) (some ⟨w.heap.size, 0, none⟩) 1 1 (⟨id, rv, 0, 0, 0⟩ : R5).cells (by simp [Act.eval, Act.put]) HX5.out (RX4) (oneCell_x (⟨id, rv, 0, 0, 0⟩ : R5)) (by unfold maxLen; omega) (by omega) (by first | exact HS0.out | exact B4.size | exact (B4.alloc B4.size _).size | exact B5.size | (simp <;> omega)) ?_; intro v5 w5 o5 g5w _; have B5 : Below w.heap.size w w5 := B4.grown g5w B4.size (fun j hj => (o4.lt j hj).1))
  | (refine step_app rfl (.tmp 32) (.tmp 35) 24 rfl w.heap.size 36 _ 5 40 Try.underlying24 info36 rfl (by omega) v5 _ _ (by simp [Act.eval, Act.put]) (by with_reducible exact o5) (some ⟨g, o, none⟩) 0 (c - c) (cells5 (xs.drop c)) (by simp [Act.eval, Act.put]) HD5.out (by rw [List.drop_eq_nil_of_le (by have := HN.out; omega)]; exact .inl rfl) (oneCell_cells5 _) (by unfold maxLen; omega) (by omega) (by first | exact HS0.out | exact B4.size | exact (B4.alloc B4.size _).size | exact B5.size | (simp <;> omega)) ?_; intro v6 w6 o6 g6w _; have B6 : Below w.heap.size w w6 := B5.grown g6w B5.size (fun j hj => (o5.lt j hj).1)))
          all_goals go_goals
          all_goals (
            have EC : [] ++ cells5 (xs.take c) ++ (⟨id, rv, 0, 0, 0⟩ : R5).cells ++ cells5 (xs.drop c) = cells5 (puA xs id rv) := by rw [puA, HPX.out, cells5_append, cells5_cons, List.nil_append, List.append_assoc]
            have EN : 0 + c + 1 + 0 = c + 1 := by omega
            rw [EC, EN] at o6
            have HO6 := Lib.hid o6
            have HB6 := Lib.hid B6
            clear EC EN o6 o5 o4 g4w g5w g6w B4 B5 B6 OA OB OC BBA BBB BBC RAA RAB RAC
            go_wp2
            go_ret
            exact ⟨_, rfl, HO6.out, HB6.out⟩)
        · have hck2 : ¬ n = c := fun h => hcn h.symm
          go_wp2_with fail
          have hk0 : (0 : Int) ≤ (n : Int) := by omega
          have hk2 : (n : Int) ≤ (c : Int) := by omega
          have hk3 : n ≤ c := by omega
          have HK5 := Lib.hid (show (cells5 (xs.take n)).length = n * 5 by have h1 := HN.out; have h2 := length_cells5 (xs.take n); rw [List.length_take] at h2; omega)
          have HD5 := Lib.hid (show (cells5 (xs.drop n)).length = 0 * 5 by have h1 := HN.out; have h2 := length_cells5 (xs.drop n); rw [List.length_drop] at h2; omega)
          have HX5 := Lib.hid (show (⟨id, rv, 0, 0, 0⟩ : R5).cells.length = 1 * 5 from rfl)
          have HS0 := Lib.hid (Nat.le_refl w.heap.size)
          have OA : Hid (((w.alloc (.cells #[] 36)).drew).ownsRow w.heap.size 36 5 (.slice (some ⟨w.heap.size, 0, none⟩) 0 0) 0 []) := Lib.hid (own_empty w _ _ _ (Nat.le_refl _))
          have BBA : Hid (Below w.heap.size w ((w.alloc (.cells #[] 36)).drew)) := Lib.hid ((Below.refl _ _).alloc (Nat.le_refl _) _).drew
          have RAA : Hid (Rd ((w.alloc (.cells #[] 36)).drew) (some ⟨g, o, none⟩) (cells5 (xs.take n))) := Lib.hid (rd_takeT (HA.out.below BBA.out) n)
          have OB : Hid ((((w.alloc (.cells #[] 36)).alloc (.cells #[.int .i64 id, .int .i64 rv, .int .i64 0, .int .i64 0, .int .i64 0] 36)).drew).ownsRow w.heap.size 36 5 (.slice (some ⟨w.heap.size, 0, none⟩) 0 0) 0 []) := Lib.hid ((own_empty w _ _ _ (Nat.le_refl _)).alloc _)
          have BBB : Hid (Below w.heap.size w (((w.alloc (.cells #[] 36)).alloc (.cells #[.int .i64 id, .int .i64 rv, .int .i64 0, .int .i64 0, .int .i64 0] 36)).drew)) := Lib.hid ((((Below.refl _ _).alloc (Nat.le_refl _) _).alloc (by simp) _).drew)
          have RXB : Hid (Rd (((w.alloc (.cells #[] 36)).alloc (.cells #[.int .i64 id, .int .i64 rv, .int .i64 0, .int .i64 0, .int .i64 0] 36)).drew) (some ⟨w.heap.size + 1, 0, none⟩) (⟨id, rv, 0, 0, 0⟩ : R5).cells) := Lib.hid (rd_new #[.int .i64 id, .int .i64 rv, .int .i64 0, .int .i64 0, .int .i64 0] 36 (by simp))
          have RAB : Hid (Rd (((w.alloc (.cells #[] 36)).alloc (.cells #[.int .i64 id, .int .i64 rv, .int .i64 0, .int .i64 0, .int .i64 0] 36)).drew) (some ⟨g, o, none⟩) (cells5 (xs.take n))) := Lib.hid (rd_takeT (HA.out.below BBB.out) n)
          have OC : Hid ((((w.alloc (.cells #[.int .i64 id, .int .i64 rv, .int .i64 0, .int .i64 0, .int .i64 0] 36)).alloc (.cells #[] 36)).drew).ownsRow w.heap.size 36 5 (.slice (some ⟨(w.heap.size + 1), 0, none⟩) 0 0) 0 []) := Lib.hid (own_empty' (by simp) (by simp))
          have BBC : Hid (Below w.heap.size w (((w.alloc (.cells #[.int .i64 id, .int .i64 rv, .int .i64 0, .int .i64 0, .int .i64 0] 36)).alloc (.cells #[] 36)).drew)) := Lib.hid ((((Below.refl _ _).alloc (Nat.le_refl _) _).alloc (by simp) _).drew)
          have RXC : Hid (Rd (((w.alloc (.cells #[.int .i64 id, .int .i64 rv, .int .i64 0, .int .i64 0, .int .i64 0] 36)).alloc (.cells #[] 36)).drew) (some ⟨w.heap.size, 0, none⟩) (⟨id, rv, 0, 0, 0⟩ : R5).cells) := Lib.hid ((rd_new #[.int .i64 id, .int .i64 rv, .int .i64 0, .int .i64 0, .int .i64 0] 36 rfl).alloc _)
          have RAC : Hid (Rd (((w.alloc (.cells #[.int .i64 id, .int .i64 rv, .int .i64 0, .int .i64 0, .int .i64 0] 36)).alloc (.cells #[] 36)).drew) (some ⟨g, o, none⟩) (cells5 (xs.take n))) := Lib.hid (rd_takeT (HA.out.below BBC.out) n)
          go_region_held3 (fun w' => True) (first | go_keep | trivial) (first
  | (refine step_app rfl (.tmp 23) (.tmp 26) 24 rfl w.heap.size 36 _ 5 40 Try.underlying24 info36 rfl (by omega) (.slice (some ⟨w.heap.size, 0, none⟩) 0 0) 0 [] (by simp [Act.eval, Act.put]) (by with_reducible exact OA.out) (some ⟨g, o, none⟩) n c (cells5 (xs.take n)) (by simp [Act.eval, Act.put]) HK5.out (RAA.out) (oneCell_cells5 _) (by unfold maxLen; omega) (by omega) (by first | exact HS0.out | exact B4.size | exact (B4.alloc B4.size _).size | exact B5.size | (simp <;> omega)) ?_; intro v4 w4 o4 g4w _; have B4 := BBA.out.grown g4w BBA.out.size (fun j hj => (OA.out.lt j hj).1))
  | (refine step_app rfl (.tmp 23) (.tmp 26) 24 rfl w.heap.size 36 _ 5 40 Try.underlying24 info36 rfl (by omega) (.slice (some ⟨w.heap.size, 0, none⟩) 0 0) 0 [] (by simp [Act.eval, Act.put]) (by with_reducible exact OB.out) (some ⟨g, o, none⟩) n c (cells5 (xs.take n)) (by simp [Act.eval, Act.put]) HK5.out (RAB.out) (oneCell_cells5 _) (by unfold maxLen; omega) (by omega) (by first | exact HS0.out | exact B4.size | exact (B4.alloc B4.size _).size | exact B5.size | (simp <;> omega)) ?_; intro v4 w4 o4 g4w _; have B4 := BBB.out.grown g4w BBB.out.size (fun j hj => (OB.out.lt j hj).1); have RX4 := rd_grown g4w RXB.out (by simp <;> omega) (by simp [Value.ownBlock]))
  | (refine step_app rfl (.tmp 23) (.tmp 26) 24 rfl w.heap.size 36 _ 5 40 Try.underlying24 info36 rfl (by omega) (.slice (some ⟨w.heap.size + 1, 0, none⟩) 0 0) 0 [] (by simp [Act.eval, Act.put]) (by with_reducible exact OC.out) (some ⟨g, o, none⟩) n c (cells5 (xs.take n)) (by simp [Act.eval, Act.put]) HK5.out (RAC.out) (oneCell_cells5 _) (by unfold maxLen; omega) (by omega) (by first | exact HS0.out | exact B4.size | exact (B4.alloc B4.size _).size | exact B5.size | (simp <;> omega)) ?_; intro v4 w4 o4 g4w _; have B4 := BBC.out.grown g4w BBC.out.size (fun j hj => (OC.out.lt j hj).1); have RX4 := rd_grown g4w RXC.out (by simp <;> omega) (by simp [Value.ownBlock]))
  | (refine step_app rfl (.tmp 27) (.tmp 31) 24 rfl w.heap.size 36 _ 5 40 Try.underlying24 info36 rfl (by omega) v4 _ _ (by simp [Act.eval, Act.put]) (by with_reducible exact o4.alloc _) (some ⟨w4.heap.size, 0, none⟩) 1 1 (⟨id, rv, 0, 0, 0⟩ : R5).cells (by simp [Act.eval, Act.put]) HX5.out (rd_new #[.int .i64 id, .int .i64 rv, .int .i64 0, .int .i64 0, .int .i64 0] 36 rfl) (oneCell_x (⟨id, rv, 0, 0, 0⟩ : R5)) (by unfold maxLen; omega) (by omega) (by first | exact HS0.out | exact B4.size | exact (B4.alloc B4.size _).size | exact B5.size | (simp <;> omega)) ?_; intro v5 w5 o5 g5w _; have B5 : Below w.heap.size w w5 := (B4.alloc B4.size _).grown g5w (B4.alloc B4.size _).size (fun j hj => (o4.lt j hj).1))
  | (refine step_app rfl (.tmp 27) (.tmp 31) 24 rfl w.heap.size 36 _ 5 40 Try.underlying24 info36 rfl (by omega) v4 _ _ (by simp [Act.eval, Act.put]) (by with_reducible exact o4) (some ⟨(w.heap.size + 1), 0, none⟩) 1 1 (⟨id, rv, 0, 0, 0⟩ : R5).cells (by simp [Act.eval, Act.put]) HX5.out (RX4) (oneCell_x (⟨id, rv, 0, 0, 0⟩ : R5)) (by unfold maxLen; omega) (by omega) (by first | exact HS0.out | exact B4.size | exact (B4.alloc B4.size _).size | exact B5.size | (simp <;> omega)) ?_; intro v5 w5 o5 g5w _; have B5 : Below w.heap.size w w5 := B4.grown g5w B4.size (fun j hj => (o4.lt j hj).1))
  | (refine step_app rfl (.tmp 27) (.tmp 31) 24 rfl w.heap.size 36 _ 5 40 Try.underlying24 info36 rfl (by omega) v4 _ _ (by simp [Act.eval, Act.put]) (by with_reducible exact o4) (some ⟨w.heap.size, 0, none⟩) 1 1 (⟨id, rv, 0, 0, 0⟩ : R5).cells (by simp [Act.eval, Act.put]) HX5.out (RX4) (oneCell_x (⟨id, rv, 0, 0, 0⟩ : R5)) (by unfold maxLen; omega) (by omega) (by first | exact HS0.out | exact B4.size | exact (B4.alloc B4.size _).size | exact B5.size | (simp <;> omega)) ?_; intro v5 w5 o5 g5w _; have B5 : Below w.heap.size w w5 := B4.grown g5w B4.size (fun j hj => (o4.lt j hj).1))
  | (refine step_app rfl (.tmp 32) (.tmp 35) 24 rfl w.heap.size 36 _ 5 40 Try.underlying24 info36 rfl (by omega) v5 _ _ (by simp [Act.eval, Act.put]) (by with_reducible exact o5) (some ⟨g, o + n * 5, none⟩) 0 (c - n) (cells5 (xs.drop n)) (by simp [Act.eval, Act.put]) HD5.out (by rw [List.drop_eq_nil_of_le (by have := HN.out; omega)]; exact .inl rfl) (oneCell_cells5 _) (by unfold maxLen; omega) (by omega) (by first | exact HS0.out | exact B4.size | exact (B4.alloc B4.size _).size | exact B5.size | (simp <;> omega)) ?_; intro v6 w6 o6 g6w _; have B6 : Below w.heap.size w w6 := B5.grown g6w B5.size (fun j hj => (o5.lt j hj).1)))
          all_goals go_goals
          all_goals (
            have EC : [] ++ cells5 (xs.take n) ++ (⟨id, rv, 0, 0, 0⟩ : R5).cells ++ cells5 (xs.drop n) = cells5 (puA xs id rv) := by rw [puA, HPX.out, cells5_append, cells5_cons, List.nil_append, List.append_assoc]
            have EN : 0 + n + 1 + 0 = n + 1 := by omega
            rw [EC, EN] at o6
            have HO6 := Lib.hid o6
            have HB6 := Lib.hid B6
            clear EC EN o6 o5 o4 g4w g5w g6w B4 B5 B6 OA OB OC BBA BBB BBC RAA RAB RAC
            go_wp2
            go_ret
            exact ⟨_, rfl, HO6.out, HB6.out⟩)

end Go.Proofs.Ytjnbcippipookaa
