/- What the cursor draws: a timetable. -/
import Derived.Test.YtobloedpmjkgpaaCvL
import Derived.Test.YtobloedpmjkgpaaCvD2
import Derived.Test.YtobloedpmjkgpaaCvE4
import Derived.Deep.RegionHeld3
namespace Go.Proofs.Ytobloedpmjkgpaa
set_option linter.unusedVariables false
set_option linter.unusedSimpArgs false
open Go.RowKit

theorem own_formS {w : World} {base e size n : Nat} {v : Value} {cs : List Value} (h : w.ownsRow base e size v n cs) (hn : 0 < n) : ∃ G C, v = .slice (some ⟨G, 0, none⟩) n C := by
  rcases h.2 with ⟨_, h0⟩ | ⟨g, cap, cur, hv, _⟩
  · omega
  · exact ⟨g, cap, hv⟩
theorem cells4_drop (xs : List R4) (k : Nat) : (cells4 xs).drop (k * 4) = cells4 (xs.drop k) := by
  induction xs generalizing k with
  | nil => simp [cells4]
  | cons x xs ih =>
    cases k with
    | zero => simp
    | succ k =>
      rw [cells4_cons, List.drop_succ_cons, ← ih k, show (k + 1) * 4 = x.cells.length + k * 4 by simp [R4.cells]; omega, List.drop_append]
      simp
theorem rd_drop4 {w : World} {g o : Nat} {xs : List R4} (h : Rd w (some ⟨g, o, none⟩) (cells4 xs)) (k : Nat) : Rd w (some ⟨g, o + k * 4, none⟩) (cells4 (xs.drop k)) := by
  rcases h with h | ⟨g', o', e, hg, hc⟩
  · left
    rw [← cells4_drop, h, List.drop_nil]
  · injection e with e
    injection e with e1 e2
    subst e1; subst e2
    refine .inr ⟨g, o + k * 4, rfl, hg, fun j v hv => ?_⟩
    rw [← cells4_drop, List.getElem?_drop] at hv
    rw [Nat.add_assoc]
    exact hc _ v hv
theorem rd_take4 {w : World} {A : Option Addr} {xs : List R4} (h : Rd w A (cells4 xs)) (k : Nat) : Rd w A (cells4 (xs.take k)) := by
  have e : cells4 xs = cells4 (xs.take k) ++ cells4 (xs.drop k) := by rw [← cells4_append, List.take_append_drop]
  rw [e] at h
  exact Rd.prefix_ h

theorem own_empty' {w : World} {base e size b : Nat} (hb : b = w.heap.size) (hb2 : base ≤ w.heap.size) : (w.alloc (.cells #[] e)).ownsRow base e size (.slice (some ⟨b, 0, none⟩) 0 0) 0 [] := by
  subst hb; exact own_empty w base e size hb2
theorem rd_grown {w w' : World} {row : Option Nat} {g o : Nat} {cs : List Value} (hg : w.grownBy w' row) (h : Rd w (some ⟨g, o, none⟩) cs) (hlt : g < w.heap.size) (hne : some g ≠ row) : Rd w' (some ⟨g, o, none⟩) cs := by
  rcases h with h | ⟨g', o', e, hg', hc⟩
  · exact .inl h
  · injection e with e
    injection e with e1 e2
    subst e1; subst e2
    exact .inr ⟨g, o, rfl, Nat.lt_of_lt_of_le hg' hg.size, fun j v hv => (hg.cell_far ⟨g, o + j, none⟩ hg' hne).trans (hc j v hv)⟩


set_option maxRecDepth 20000 in
set_option maxHeartbeats 16000000 in
theorem timetable_any (p k : Nat) (u : Cu) (w : World) (h : CurB w p u k) (hk : k ≤ 600000) :
    Calls Try.prog 19 #[.pointer (some ⟨p, 0, none⟩)] w (RetCM 58 21 p u k 900 w) := by
  have PK := Lib.hid (fun k m w h hk hm hm2 => pick_any p k m u w h hk hm hm2)
  have ON := Lib.hid (fun k m w h hk hm hm2 => one_any p k m u w h hk hm hm2)
  have ML := Lib.hid (fun k w h hk => mail_any p k u w h hk)
  have CO := Lib.hid (fun x w h => l9One_any x w h)
  have CK := Lib.hid (fun x w h => l9Code_any x w h)
  have HC := Lib.hid h
  have hp := h.lt
  clear h
  go_enter Try.func19, Try.ntmps19
  go_wp2_with fail
  refine (PK.out k 10 _ (HC.out.alloc _) (by omega) (by decide) (by decide)).mono ?_
  rintro e w1 ⟨v1, k1, rfl, ⟨r1, rfl, a1, b1⟩, hk1, hc, hg⟩
  obtain ⟨m, rfl⟩ : ∃ m : Nat, r1 = m := ⟨r1.toNat, by omega⟩
  have hm : m ≤ 9 := by omega
  have HL0 : Hid (LRel4 w 58 p u [] (.slice (some ⟨w.heap.size, 0, none⟩) 0 0) k1 w1) := Lib.hid (LRel4.call (wr := w.alloc (.cells #[] 58)) (k := k) ⟨own_empty w _ _ _ (Nat.le_refl _), HC.out.alloc _, World.grownBy_alloc w _ _⟩ hp hc hg)
  clear a1 b1 hc hg HC
  go_wp2_with fail
  go_loopw [3, 4, 5, 6] (fun v i _ _ wr => ∃ (j : Nat) (xs : List R4) (kk : Nat), i = .int .i64 j ∧ j ≤ m ∧ xs.length + j ≤ 9 ∧ kk + 40 * j ≤ k1 + 40 * m ∧ (∀ y ∈ xs, sm4 y) ∧ (∃ g c, v = .slice (some ⟨g, 0, none⟩) xs.length c) ∧ LRel4 w 58 p u xs v kk wr) (fun _ i _ _ _ => (intOf i).toNat)
  case atStart => exact ⟨m, [], k1, rfl, by omega, by simp; omega, by omega, by simp, ⟨_, _, rfl⟩, HL0.out⟩
  case round =>
    clear HL0
    obtain ⟨wO, hwO⟩ : ∃ x, x = wr := ⟨wr, rfl⟩
    subst hwO
    obtain ⟨j, xs, kk, rfl, hj, hx, hkk, hsm, ⟨g, c, rfl⟩, hL⟩ := hrel
    have hcap := own_capS hL.own
    have HL := Lib.hid hL
    have HSM := Lib.hid hsm
    clear hL hsm
    by_cases hj0 : 0 < j
    · have hj0' : (0 : Int) < (j : Int) := by omega
      go_wp2_with fail
      refine (ML.out kk _ HL.out.cur (by omega)).mono ?_
      rintro e w2 ⟨v2, k2, rfl, ⟨x, rfl, hxs⟩, hk2, hc, hg⟩
      have HL2 := Lib.hid (HL.out.call hp hc hg)
      have HXS := Lib.hid hxs
      clear hc hg HL hxs
      have hpx : p < w2.heap.size := HL2.out.cur.lt
      have KX2 : Hid (Blk (w2.alloc (.cells #[.int .i64 x.a, .int .i64 x.b, .int .i64 x.c, .int .i64 x.d] 58)) w2.heap.size x.cells) := Lib.hid (Blk.new w2 x.cells 58)
      have HL2b := Lib.hid (HL2.out.below ((Below.refl _ _).alloc (Nat.le_refl _) (.cells #[.int .i64 x.a, .int .i64 x.b, .int .i64 x.c, .int .i64 x.d] 58)))
      have hs2 := HL2.out.sz
      cases hv : mlB x with
      | true =>
        have CX := Lib.hid (fun w => CO.out x w HXS.out.2.2.2)
        rw [hv] at CX
        clear hv
        go_wp2_with fail
        refine (CX.out _).mono ?_
        rintro e w3 ⟨rfl, b3⟩
        have HL3 := Lib.hid (HL2b.out.below b3)
        have KX3 := Lib.hid (KX2.out.below b3 KX2.out.lt)
        clear b3 HL2b KX2 HL2 CX
        have hsS := HL3.out.sz
        have hbxl : w2.heap.size < w3.heap.size := KX3.out.lt
        go_wp2_with fail
        go_loopw [6] (fun i wr => ∃ q : Nat, i = .int .i64 q ∧ q ≤ xs.length ∧ Below w3.heap.size w3 wr) (fun i _ => (intOf i).toNat)
        case atStart => exact ⟨xs.length, rfl, by omega, Below.refl _ _⟩
        case round =>
          obtain ⟨q, rfl, hq, hbq⟩ := hrel
          have HLr := Lib.hid (HL3.out.below hbq)
          have KXr := Lib.hid (KX3.out.below hbq KX3.out.lt)
          have HBq := Lib.hid hbq
          have hsq := hbq.size
          clear hbq
          have e0 := KXr.out.cell 0 _ rfl
          have e1 := KXr.out.cell 1 _ rfl
          have e2 := KXr.out.cell 2 _ rfl
          have e3 := KXr.out.cell 3 _ rfl
          have hxl := KXr.out.lt
          have C1 := Lib.hid (fun w => CK.out x w HXS.out)
          by_cases hq0 : q ≤ 0
          · have hd : decide (0 < q) = false := by simp; omega
            have hdi : decide ((0 : Int) < (q : Int)) = false := by simp; omega
            go_wp2_with fail
            refine wp_region_lat wr.heap.size (by kernel_rfl) (by kernel_rfl) ?_
            have LC := fun (u : Lat wr.heap.size wr) => u.cell
            repeat (go_big_quiet_step (fail))
            refine wpQuiet_nil ?_
            intro w4 b4
            clear LC
            have HL4 := Lib.hid (HLr.out.below b4)
            have KX4 := Lib.hid (KXr.out.below b4 KXr.out.lt)
            clear b4 e0 e1 e2 e3 HLr KXr
            obtain rfl : q = 0 := by omega
            rw [show ((0 : Nat) : Int) = 0 from rfl]
            have e0 : w4.cell? ⟨w2.heap.size, 0, none⟩ = some (.int .i64 x.a) := KX4.out.cell 0 _ rfl
            have e1 : w4.cell? ⟨w2.heap.size, 1, none⟩ = some (.int .i64 x.b) := KX4.out.cell 1 _ rfl
            have e2 : w4.cell? ⟨w2.heap.size, 2, none⟩ = some (.int .i64 x.c) := KX4.out.cell 2 _ rfl
            have e3 : w4.cell? ⟨w2.heap.size, 3, none⟩ = some (.int .i64 x.d) := KX4.out.cell 3 _ rfl
            have hxl4 : w2.heap.size < w4.heap.size := KX4.out.lt
            go_wp2_with fail
            refine wp_region_lat w4.heap.size (by kernel_rfl) (by kernel_rfl) ?_
            have LC := fun (u : Lat w4.heap.size w4) => u.cell
            repeat (go_big_quiet_step (fail))
            refine wpQuiet_nil ?_
            intro w5 b5
            clear LC
            have HL5 := Lib.hid (HL4.out.below b5)
            have g0 : w5.cell? ⟨w2.heap.size, 0, none⟩ = some (.int .i64 x.a) := (b5.cell (p := ⟨w2.heap.size, 0, none⟩) hxl4).trans e0
            have g1 : w5.cell? ⟨w2.heap.size, 1, none⟩ = some (.int .i64 x.b) := (b5.cell (p := ⟨w2.heap.size, 1, none⟩) hxl4).trans e1
            have g2 : w5.cell? ⟨w2.heap.size, 2, none⟩ = some (.int .i64 x.c) := (b5.cell (p := ⟨w2.heap.size, 2, none⟩) hxl4).trans e2
            have g3 : w5.cell? ⟨w2.heap.size, 3, none⟩ = some (.int .i64 x.d) := (b5.cell (p := ⟨w2.heap.size, 3, none⟩) hxl4).trans e3
            have hsl5 : w2.heap.size < w5.heap.size := Nat.lt_of_lt_of_le hxl4 b5.size
            clear b5 e0 e1 e2 e3 HL4 KX4
            have HR5 := Lib.hid (Rd.of_own HL5.out.own)
            have hs5 := HL5.out.sz
            have HKT := Lib.hid (show (cells4 (xs.take 0)).length = 0 * 4 by rw [length_cells4, List.length_take, Nat.min_eq_left (by omega)])
            have HDT := Lib.hid (show (cells4 (xs.drop 0)).length = xs.length * 4 by rw [length_cells4, List.length_drop, Nat.sub_zero])
            have HX4 := Lib.hid (show x.cells.length = 1 * 4 from rfl)
            have HS0 := Lib.hid (Nat.le_refl w5.heap.size)
            have OA : Hid (((w5.alloc (.cells #[] 58)).drew).ownsRow w5.heap.size 58 4 (.slice (some ⟨w5.heap.size, 0, none⟩) 0 0) 0 []) := Lib.hid (own_empty w5 _ _ _ (Nat.le_refl _))
            have BBA : Hid (Below w5.heap.size w5 ((w5.alloc (.cells #[] 58)).drew)) := Lib.hid ((Below.refl _ _).alloc (Nat.le_refl _) _).drew
            have RAA : Hid (Rd ((w5.alloc (.cells #[] 58)).drew) (some ⟨g, 0, none⟩) (cells4 (xs.take 0))) := Lib.hid (rd_take4 (HR5.out.below BBA.out) 0)
            have OB : Hid ((((w5.alloc (.cells #[] 58)).alloc (.cells #[.int .i64 x.a, .int .i64 x.b, .int .i64 x.c, .int .i64 x.d] 58)).drew).ownsRow w5.heap.size 58 4 (.slice (some ⟨w5.heap.size, 0, none⟩) 0 0) 0 []) := Lib.hid ((own_empty w5 _ _ _ (Nat.le_refl _)).alloc _)
            have BBB : Hid (Below w5.heap.size w5 (((w5.alloc (.cells #[] 58)).alloc (.cells #[.int .i64 x.a, .int .i64 x.b, .int .i64 x.c, .int .i64 x.d] 58)).drew)) := Lib.hid ((((Below.refl _ _).alloc (Nat.le_refl _) _).alloc (by simp) _).drew)
            have RXB : Hid (Rd (((w5.alloc (.cells #[] 58)).alloc (.cells #[.int .i64 x.a, .int .i64 x.b, .int .i64 x.c, .int .i64 x.d] 58)).drew) (some ⟨w5.heap.size + 1, 0, none⟩) x.cells) := Lib.hid (rd_new #[.int .i64 x.a, .int .i64 x.b, .int .i64 x.c, .int .i64 x.d] 58 (by simp))
            have RAB : Hid (Rd (((w5.alloc (.cells #[] 58)).alloc (.cells #[.int .i64 x.a, .int .i64 x.b, .int .i64 x.c, .int .i64 x.d] 58)).drew) (some ⟨g, 0, none⟩) (cells4 (xs.take 0))) := Lib.hid (rd_take4 (HR5.out.below BBB.out) 0)
            have OC : Hid ((((w5.alloc (.cells #[.int .i64 x.a, .int .i64 x.b, .int .i64 x.c, .int .i64 x.d] 58)).alloc (.cells #[] 58)).drew).ownsRow w5.heap.size 58 4 (.slice (some ⟨(w5.heap.size + 1), 0, none⟩) 0 0) 0 []) := Lib.hid (own_empty' (by simp) (by simp))
            have BBC : Hid (Below w5.heap.size w5 (((w5.alloc (.cells #[.int .i64 x.a, .int .i64 x.b, .int .i64 x.c, .int .i64 x.d] 58)).alloc (.cells #[] 58)).drew)) := Lib.hid ((((Below.refl _ _).alloc (Nat.le_refl _) _).alloc (by simp) _).drew)
            have RXC : Hid (Rd (((w5.alloc (.cells #[.int .i64 x.a, .int .i64 x.b, .int .i64 x.c, .int .i64 x.d] 58)).alloc (.cells #[] 58)).drew) (some ⟨w5.heap.size, 0, none⟩) x.cells) := Lib.hid ((rd_new #[.int .i64 x.a, .int .i64 x.b, .int .i64 x.c, .int .i64 x.d] 58 rfl).alloc _)
            have RAC : Hid (Rd (((w5.alloc (.cells #[.int .i64 x.a, .int .i64 x.b, .int .i64 x.c, .int .i64 x.d] 58)).alloc (.cells #[] 58)).drew) (some ⟨g, 0, none⟩) (cells4 (xs.take 0))) := Lib.hid (rd_take4 (HR5.out.below BBC.out) 0)
            go_wp2_with fail
            go_region_held3 (fun w' => w'.cell? ⟨w2.heap.size, 0, none⟩ = some (.int .i64 x.a) ∧ w'.cell? ⟨w2.heap.size, 1, none⟩ = some (.int .i64 x.b) ∧ w'.cell? ⟨w2.heap.size, 2, none⟩ = some (.int .i64 x.c) ∧ w'.cell? ⟨w2.heap.size, 3, none⟩ = some (.int .i64 x.d)) (first | go_keep | exact ⟨(B8.cell (p := ⟨w2.heap.size, 0, none⟩) hsl5).trans g0, (B8.cell (p := ⟨w2.heap.size, 1, none⟩) hsl5).trans g1, (B8.cell (p := ⟨w2.heap.size, 2, none⟩) hsl5).trans g2, (B8.cell (p := ⟨w2.heap.size, 3, none⟩) hsl5).trans g3⟩ | exact ⟨(B7.cell (p := ⟨w2.heap.size, 0, none⟩) hsl5).trans g0, (B7.cell (p := ⟨w2.heap.size, 1, none⟩) hsl5).trans g1, (B7.cell (p := ⟨w2.heap.size, 2, none⟩) hsl5).trans g2, (B7.cell (p := ⟨w2.heap.size, 3, none⟩) hsl5).trans g3⟩ | exact ⟨(B6.cell (p := ⟨w2.heap.size, 0, none⟩) hsl5).trans g0, (B6.cell (p := ⟨w2.heap.size, 1, none⟩) hsl5).trans g1, (B6.cell (p := ⟨w2.heap.size, 2, none⟩) hsl5).trans g2, (B6.cell (p := ⟨w2.heap.size, 3, none⟩) hsl5).trans g3⟩) (first | (refine step_appL rfl (.tmp 52) (.tmp 55) 25 rfl w5.heap.size 58 _ 4 32 Try.underlying25 info58 rfl (by omega) (.slice (some ⟨w5.heap.size, 0, none⟩) 0 0) 0 [] (by simp [Act.eval, Act.put]) (by with_reducible exact OA.out) (some ⟨g, 0, none⟩) 0 c (cells4 (xs.take 0)) (by simp [Act.eval, Act.put]) HKT.out (RAA.out) (oneCell_cells4 _) (by unfold maxLen; omega) (by omega) (by first | exact HS0.out | exact B6.size | exact (B6.alloc B6.size _).size | exact B7.size | (simp <;> omega)) ?_; intro v6 w6 o6 g6w _; have B6 := BBA.out.grown g6w BBA.out.size (fun j hj => (OA.out.lt j hj).1)) | (refine step_appL rfl (.tmp 52) (.tmp 55) 25 rfl w5.heap.size 58 _ 4 32 Try.underlying25 info58 rfl (by omega) (.slice (some ⟨w5.heap.size, 0, none⟩) 0 0) 0 [] (by simp [Act.eval, Act.put]) (by with_reducible exact OB.out) (some ⟨g, 0, none⟩) 0 c (cells4 (xs.take 0)) (by simp [Act.eval, Act.put]) HKT.out (RAB.out) (oneCell_cells4 _) (by unfold maxLen; omega) (by omega) (by first | exact HS0.out | exact B6.size | exact (B6.alloc B6.size _).size | exact B7.size | (simp <;> omega)) ?_; intro v6 w6 o6 g6w _; have B6 := BBB.out.grown g6w BBB.out.size (fun j hj => (OB.out.lt j hj).1); have RX6 := rd_grown g6w RXB.out (by simp <;> omega) (by simp [Value.ownBlock])) | (refine step_appL rfl (.tmp 52) (.tmp 55) 25 rfl w5.heap.size 58 _ 4 32 Try.underlying25 info58 rfl (by omega) (.slice (some ⟨w5.heap.size + 1, 0, none⟩) 0 0) 0 [] (by simp [Act.eval, Act.put]) (by with_reducible exact OC.out) (some ⟨g, 0, none⟩) 0 c (cells4 (xs.take 0)) (by simp [Act.eval, Act.put]) HKT.out (RAC.out) (oneCell_cells4 _) (by unfold maxLen; omega) (by omega) (by first | exact HS0.out | exact B6.size | exact (B6.alloc B6.size _).size | exact B7.size | (simp <;> omega)) ?_; intro v6 w6 o6 g6w _; have B6 := BBC.out.grown g6w BBC.out.size (fun j hj => (OC.out.lt j hj).1); have RX6 := rd_grown g6w RXC.out (by simp <;> omega) (by simp [Value.ownBlock])) | (refine step_appL rfl (.tmp 56) (.tmp 58) 25 rfl w5.heap.size 58 _ 4 32 Try.underlying25 info58 rfl (by omega) v6 _ _ (by simp [Act.eval, Act.put]) (by with_reducible exact o6.alloc _) (some ⟨w6.heap.size, 0, none⟩) 1 1 x.cells (by simp [Act.eval, Act.put]) HX4.out (rd_new #[.int .i64 x.a, .int .i64 x.b, .int .i64 x.c, .int .i64 x.d] 58 rfl) (oneCell_4 x) (by unfold maxLen; omega) (by omega) (by first | exact HS0.out | exact B6.size | exact (B6.alloc B6.size _).size | exact B7.size | (simp <;> omega)) ?_; intro v7 w7 o7 g7w _; have B7 : Below w5.heap.size w5 w7 := (B6.alloc B6.size _).grown g7w (B6.alloc B6.size _).size (fun j hj => (o6.lt j hj).1)) | (refine step_appL rfl (.tmp 56) (.tmp 58) 25 rfl w5.heap.size 58 _ 4 32 Try.underlying25 info58 rfl (by omega) v6 _ _ (by simp [Act.eval, Act.put]) (by with_reducible exact o6) (some ⟨(w5.heap.size + 1), 0, none⟩) 1 1 x.cells (by simp [Act.eval, Act.put]) HX4.out (RX6) (oneCell_4 x) (by unfold maxLen; omega) (by omega) (by first | exact HS0.out | exact B6.size | exact (B6.alloc B6.size _).size | exact B7.size | (simp <;> omega)) ?_; intro v7 w7 o7 g7w _; have B7 : Below w5.heap.size w5 w7 := B6.grown g7w B6.size (fun j hj => (o6.lt j hj).1)) | (refine step_appL rfl (.tmp 56) (.tmp 58) 25 rfl w5.heap.size 58 _ 4 32 Try.underlying25 info58 rfl (by omega) v6 _ _ (by simp [Act.eval, Act.put]) (by with_reducible exact o6) (some ⟨w5.heap.size, 0, none⟩) 1 1 x.cells (by simp [Act.eval, Act.put]) HX4.out (RX6) (oneCell_4 x) (by unfold maxLen; omega) (by omega) (by first | exact HS0.out | exact B6.size | exact (B6.alloc B6.size _).size | exact B7.size | (simp <;> omega)) ?_; intro v7 w7 o7 g7w _; have B7 : Below w5.heap.size w5 w7 := B6.grown g7w B6.size (fun j hj => (o6.lt j hj).1)) | (refine step_appL rfl (.tmp 59) (.tmp 62) 25 rfl w5.heap.size 58 _ 4 32 Try.underlying25 info58 rfl (by omega) v7 _ _ (by simp [Act.eval, Act.put]) (by with_reducible exact o7) (some ⟨g, 0, none⟩) xs.length c (cells4 (xs.drop 0)) (by simp [Act.eval, Act.put]) HDT.out (by rw [List.drop_zero]; exact HR5.out.below B7) (oneCell_cells4 _) (by unfold maxLen; omega) (by omega) (by first | exact HS0.out | exact B6.size | exact (B6.alloc B6.size _).size | exact B7.size | (simp <;> omega)) ?_; intro v8 w8 o8 g8w _; have B8 : Below w5.heap.size w5 w8 := B7.grown g8w B7.size (fun j hj => (o7.lt j hj).1)))
            all_goals go_goals
            all_goals (
              obtain ⟨ys, hys⟩ : ∃ ys, ys = xs.take 0 ++ x :: xs.drop 0 := ⟨_, rfl⟩
              have EC : [] ++ cells4 (xs.take 0) ++ x.cells ++ cells4 (xs.drop 0) = cells4 ys := by rw [hys, cells4_append, cells4_cons, List.nil_append, List.append_assoc]
              have EL : ys.length = xs.length + 1 := by rw [hys, List.length_append, List.length_cons, List.length_take, List.length_drop]; omega
              have EN : 0 + 0 + 1 + xs.length = ys.length := by rw [EL]; omega
              rw [EC, EN] at o8
              have HLN := Lib.hid (HL5.out.new o8 B8)
              have hsy : ∀ y ∈ ys, sm4 y := fun y hy => by
                rw [hys] at hy
                rcases List.mem_append.1 hy with h | h
                · exact HSM.out y (List.mem_of_mem_take h)
                · rcases List.mem_cons.1 h with rfl | h
                  · exact HXS.out
                  · exact HSM.out y (List.mem_of_mem_drop h)
              obtain ⟨g8, c8, rfl⟩ := own_formS o8 (by omega)
              have HSY := Lib.hid hsy
              clear EC EN hys hsy o8 o7 o6 g8w g7w g6w OA OB OC BBA BBB BBC RAA RAB RAC
              go_wp2_with fail
              go_roundw
              case rel => exact ⟨j - 1, ys, k2, by go_num, by omega, by omega, by omega, HSY.out, ⟨_, _, rfl⟩, HLN.out⟩
              case measure => (simp [intOf]; omega))
          · obtain ⟨y, ey⟩ : ∃ y, xs[q - 1]? = some y := ⟨_, List.getElem?_eq_getElem (by omega)⟩
            obtain ⟨g9, o9, eA, hgl, d0, d1, d2, d3⟩ := (Rd.of_own HLr.out.own).at4 ey
            have hym := List.mem_of_getElem? ey
            have HYS := Lib.hid (HSM.out y hym)
            injection eA with eA
            injection eA with eA1 eA2
            subst eA1
            subst eA2
            rw [Nat.zero_add] at d0 d1 d2 d3
            have hp0 : 0 < q := by omega
            have hp1 : (0 : Int) < (q : Int) := by omega
            have hwq : IntKind.i64.wrap ((q : Int) - 1) = (q : Int) - 1 := IntWalk.i64_in _ (by omega)
            have hdq : decide (0 < q) = true := by simp; omega
            have hqz : ((q : Int) == 0) = false := by rw [beq_eq_false_iff_ne]; omega
            have HEY := Lib.hid ey
            clear ey hym
            have C2 := Lib.hid (fun w => CK.out y w HYS.out)
            by_cases hky : mlKey x < mlKey y
            · have hd1 : decide (mlKey x < mlKey y) = true := by simp [hky]
              go_wp2_with fail
              refine wp_region_lat wr.heap.size (by kernel_rfl) (by kernel_rfl) ?_
              have LC := fun (u : Lat wr.heap.size wr) => u.cell
              repeat (go_big_quiet_step (first | (go_at_call 42; (with_reducible exact lat_call _ (Nat.le_refl _) (C2.out _))) | (go_at_call 42; (with_reducible exact lat_call _ (Nat.le_refl _) (C1.out _)))))
              refine wpQuiet_nil ?_
              intro w4 b4
              clear LC
              have HBq4 := Lib.hid (HBq.out.trans (b4.mono hsq))
              clear b4
              go_wp2
              go_roundw
              case rel => exact ⟨q - 1, by rw [Int.natCast_sub (by omega)]; rfl, by omega, HBq4.out⟩
              case measure => simp [intOf]; omega
            · have hd1 : decide (mlKey x < mlKey y) = false := by simp; omega
              go_wp2_with fail
              refine wp_region_lat wr.heap.size (by kernel_rfl) (by kernel_rfl) ?_
              have LC := fun (u : Lat wr.heap.size wr) => u.cell
              repeat (go_big_quiet_step (first | (go_at_call 42; (with_reducible exact lat_call _ (Nat.le_refl _) (C2.out _))) | (go_at_call 42; (with_reducible exact lat_call _ (Nat.le_refl _) (C1.out _)))))
              refine wpQuiet_nil ?_
              intro w4 b4
              clear LC
              have HL4 := Lib.hid (HLr.out.below b4)
              have KX4 := Lib.hid (KXr.out.below b4 KXr.out.lt)
              have D0 := (b4.cell (p := ⟨g, (q - 1) * 4, none⟩) hgl).trans d0
              have D1 := (b4.cell (p := ⟨g, (q - 1) * 4 + 1, none⟩) hgl).trans d1
              have D2 := (b4.cell (p := ⟨g, (q - 1) * 4 + 2, none⟩) hgl).trans d2
              have D3 := (b4.cell (p := ⟨g, (q - 1) * 4 + 3, none⟩) hgl).trans d3
              have hgl4 := Nat.lt_of_lt_of_le hgl b4.size
              clear b4 e0 e1 e2 e3 d0 d1 d2 d3 HLr KXr
              have e0 : w4.cell? ⟨w2.heap.size, 0, none⟩ = some (.int .i64 x.a) := KX4.out.cell 0 _ rfl
              have e1 : w4.cell? ⟨w2.heap.size, 1, none⟩ = some (.int .i64 x.b) := KX4.out.cell 1 _ rfl
              have e2 : w4.cell? ⟨w2.heap.size, 2, none⟩ = some (.int .i64 x.c) := KX4.out.cell 2 _ rfl
              have e3 : w4.cell? ⟨w2.heap.size, 3, none⟩ = some (.int .i64 x.d) := KX4.out.cell 3 _ rfl
              have hxl4 : w2.heap.size < w4.heap.size := KX4.out.lt
              have hEG : ∀ (a b : Operand) (us vs : Array Value) (W : World), (eqGuard .neq 58 a b (.agg us) (.agg vs)).run Try.prog W = .ok () W := fun a b us vs W => guardMail .neq a b us vs W
              by_cases hyx : y = x
              · have hNE : ∀ W : World, (binOp .neq 58 (.agg #[.int .i64 y.a, .int .i64 y.b, .int .i64 y.c, .int .i64 y.d]) (.agg #[.int .i64 x.a, .int .i64 x.b, .int .i64 x.c, .int .i64 x.d])).run Try.prog W = .ok (.bool false) W := fun W => by rw [neqMail, show decide (y = x) = true by simp [hyx]]; rfl
                have HYX := Lib.hid hyx
                clear hyx
                go_wp2_with fail
                refine wp_region_lat w4.heap.size (by kernel_rfl) (by kernel_rfl) ?_
                have LC := fun (u : Lat w4.heap.size w4) => u.cell
                repeat (go_big_quiet_step (fail))
                refine wpQuiet_nil ?_
                intro w5 b5
                clear LC
                have HL5 := Lib.hid (HL4.out.below b5)
                have g0 : w5.cell? ⟨w2.heap.size, 0, none⟩ = some (.int .i64 x.a) := (b5.cell (p := ⟨w2.heap.size, 0, none⟩) hxl4).trans e0
                have g1 : w5.cell? ⟨w2.heap.size, 1, none⟩ = some (.int .i64 x.b) := (b5.cell (p := ⟨w2.heap.size, 1, none⟩) hxl4).trans e1
                have g2 : w5.cell? ⟨w2.heap.size, 2, none⟩ = some (.int .i64 x.c) := (b5.cell (p := ⟨w2.heap.size, 2, none⟩) hxl4).trans e2
                have g3 : w5.cell? ⟨w2.heap.size, 3, none⟩ = some (.int .i64 x.d) := (b5.cell (p := ⟨w2.heap.size, 3, none⟩) hxl4).trans e3
                have hsl5 : w2.heap.size < w5.heap.size := Nat.lt_of_lt_of_le hxl4 b5.size
                clear b5 e0 e1 e2 e3 HL4 KX4
                clear hNE hEG D0 D1 D2 D3
                go_wp2
                go_roundw
                case rel => exact ⟨j - 1, xs, k2, by go_num, by omega, by omega, by omega, HSM.out, ⟨_, _, rfl⟩, HL5.out⟩
                case measure => simp [intOf]; omega
              · have hNE : ∀ W : World, (binOp .neq 58 (.agg #[.int .i64 y.a, .int .i64 y.b, .int .i64 y.c, .int .i64 y.d]) (.agg #[.int .i64 x.a, .int .i64 x.b, .int .i64 x.c, .int .i64 x.d])).run Try.prog W = .ok (.bool true) W := fun W => by rw [neqMail, show decide (y = x) = false by simp [hyx]]; rfl
                have HYX := Lib.hid hyx
                clear hyx
                go_wp2_with fail
                refine wp_region_lat w4.heap.size (by kernel_rfl) (by kernel_rfl) ?_
                have LC := fun (u : Lat w4.heap.size w4) => u.cell
                repeat (go_big_quiet_step (fail))
                refine wpQuiet_nil ?_
                intro w5 b5
                clear LC
                have HL5 := Lib.hid (HL4.out.below b5)
                have g0 : w5.cell? ⟨w2.heap.size, 0, none⟩ = some (.int .i64 x.a) := (b5.cell (p := ⟨w2.heap.size, 0, none⟩) hxl4).trans e0
                have g1 : w5.cell? ⟨w2.heap.size, 1, none⟩ = some (.int .i64 x.b) := (b5.cell (p := ⟨w2.heap.size, 1, none⟩) hxl4).trans e1
                have g2 : w5.cell? ⟨w2.heap.size, 2, none⟩ = some (.int .i64 x.c) := (b5.cell (p := ⟨w2.heap.size, 2, none⟩) hxl4).trans e2
                have g3 : w5.cell? ⟨w2.heap.size, 3, none⟩ = some (.int .i64 x.d) := (b5.cell (p := ⟨w2.heap.size, 3, none⟩) hxl4).trans e3
                have hsl5 : w2.heap.size < w5.heap.size := Nat.lt_of_lt_of_le hxl4 b5.size
                clear b5 e0 e1 e2 e3 HL4 KX4
                clear hNE hEG D0 D1 D2 D3
                have hqi0 : (0 : Int) ≤ (q : Int) := by omega
                have hqi1 : (q : Int) ≤ (xs.length : Int) := by omega
                have hqi2 : (q : Int) ≤ (c : Int) := by omega
                have hqc : q ≤ c := by omega
                by_cases hce : c = q
                · have hce2 : q = c := hce.symm
                  have hqn : q = xs.length := by omega
                  have hdn : xs.drop q = [] := List.drop_eq_nil_of_le (by omega)
                  have HDN := Lib.hid hdn
                  have HCE := Lib.hid hce
                  have HQN := Lib.hid hqn
                  have hif1 : ∀ (α : Type) (a b : α), (if c = q then a else b) = a := fun _ a b => if_pos hce
                  have hif2 : ∀ (α : Type) (a b : α), (if q = c then a else b) = a := fun _ a b => if_pos hce2
                  clear hdn hce hce2 hqn
                  have HR5 := Lib.hid (Rd.of_own HL5.out.own)
                  have hs5 := HL5.out.sz
                  have HKT := Lib.hid (show (cells4 (xs.take q)).length = q * 4 by rw [length_cells4, List.length_take, Nat.min_eq_left (by omega)])
                  have HDT := Lib.hid (show (cells4 (xs.drop q)).length = (xs.length - q) * 4 by rw [length_cells4, List.length_drop])
                  have HX4 := Lib.hid (show x.cells.length = 1 * 4 from rfl)
                  have HS0 := Lib.hid (Nat.le_refl w5.heap.size)
                  have OA : Hid (((w5.alloc (.cells #[] 58)).drew).ownsRow w5.heap.size 58 4 (.slice (some ⟨w5.heap.size, 0, none⟩) 0 0) 0 []) := Lib.hid (own_empty w5 _ _ _ (Nat.le_refl _))
                  have BBA : Hid (Below w5.heap.size w5 ((w5.alloc (.cells #[] 58)).drew)) := Lib.hid ((Below.refl _ _).alloc (Nat.le_refl _) _).drew
                  have RAA : Hid (Rd ((w5.alloc (.cells #[] 58)).drew) (some ⟨g, 0, none⟩) (cells4 (xs.take q))) := Lib.hid (rd_take4 (HR5.out.below BBA.out) q)
                  have OB : Hid ((((w5.alloc (.cells #[] 58)).alloc (.cells #[.int .i64 x.a, .int .i64 x.b, .int .i64 x.c, .int .i64 x.d] 58)).drew).ownsRow w5.heap.size 58 4 (.slice (some ⟨w5.heap.size, 0, none⟩) 0 0) 0 []) := Lib.hid ((own_empty w5 _ _ _ (Nat.le_refl _)).alloc _)
                  have BBB : Hid (Below w5.heap.size w5 (((w5.alloc (.cells #[] 58)).alloc (.cells #[.int .i64 x.a, .int .i64 x.b, .int .i64 x.c, .int .i64 x.d] 58)).drew)) := Lib.hid ((((Below.refl _ _).alloc (Nat.le_refl _) _).alloc (by simp) _).drew)
                  have RXB : Hid (Rd (((w5.alloc (.cells #[] 58)).alloc (.cells #[.int .i64 x.a, .int .i64 x.b, .int .i64 x.c, .int .i64 x.d] 58)).drew) (some ⟨w5.heap.size + 1, 0, none⟩) x.cells) := Lib.hid (rd_new #[.int .i64 x.a, .int .i64 x.b, .int .i64 x.c, .int .i64 x.d] 58 (by simp))
                  have RAB : Hid (Rd (((w5.alloc (.cells #[] 58)).alloc (.cells #[.int .i64 x.a, .int .i64 x.b, .int .i64 x.c, .int .i64 x.d] 58)).drew) (some ⟨g, 0, none⟩) (cells4 (xs.take q))) := Lib.hid (rd_take4 (HR5.out.below BBB.out) q)
                  have OC : Hid ((((w5.alloc (.cells #[.int .i64 x.a, .int .i64 x.b, .int .i64 x.c, .int .i64 x.d] 58)).alloc (.cells #[] 58)).drew).ownsRow w5.heap.size 58 4 (.slice (some ⟨(w5.heap.size + 1), 0, none⟩) 0 0) 0 []) := Lib.hid (own_empty' (by simp) (by simp))
                  have BBC : Hid (Below w5.heap.size w5 (((w5.alloc (.cells #[.int .i64 x.a, .int .i64 x.b, .int .i64 x.c, .int .i64 x.d] 58)).alloc (.cells #[] 58)).drew)) := Lib.hid ((((Below.refl _ _).alloc (Nat.le_refl _) _).alloc (by simp) _).drew)
                  have RXC : Hid (Rd (((w5.alloc (.cells #[.int .i64 x.a, .int .i64 x.b, .int .i64 x.c, .int .i64 x.d] 58)).alloc (.cells #[] 58)).drew) (some ⟨w5.heap.size, 0, none⟩) x.cells) := Lib.hid ((rd_new #[.int .i64 x.a, .int .i64 x.b, .int .i64 x.c, .int .i64 x.d] 58 rfl).alloc _)
                  have RAC : Hid (Rd (((w5.alloc (.cells #[.int .i64 x.a, .int .i64 x.b, .int .i64 x.c, .int .i64 x.d] 58)).alloc (.cells #[] 58)).drew) (some ⟨g, 0, none⟩) (cells4 (xs.take q))) := Lib.hid (rd_take4 (HR5.out.below BBC.out) q)
                  go_wp2_with fail
                  go_region_held3 (fun w' => w'.cell? ⟨w2.heap.size, 0, none⟩ = some (.int .i64 x.a) ∧ w'.cell? ⟨w2.heap.size, 1, none⟩ = some (.int .i64 x.b) ∧ w'.cell? ⟨w2.heap.size, 2, none⟩ = some (.int .i64 x.c) ∧ w'.cell? ⟨w2.heap.size, 3, none⟩ = some (.int .i64 x.d)) (first | go_keep | exact ⟨(B8.cell (p := ⟨w2.heap.size, 0, none⟩) hsl5).trans g0, (B8.cell (p := ⟨w2.heap.size, 1, none⟩) hsl5).trans g1, (B8.cell (p := ⟨w2.heap.size, 2, none⟩) hsl5).trans g2, (B8.cell (p := ⟨w2.heap.size, 3, none⟩) hsl5).trans g3⟩ | exact ⟨(B7.cell (p := ⟨w2.heap.size, 0, none⟩) hsl5).trans g0, (B7.cell (p := ⟨w2.heap.size, 1, none⟩) hsl5).trans g1, (B7.cell (p := ⟨w2.heap.size, 2, none⟩) hsl5).trans g2, (B7.cell (p := ⟨w2.heap.size, 3, none⟩) hsl5).trans g3⟩ | exact ⟨(B6.cell (p := ⟨w2.heap.size, 0, none⟩) hsl5).trans g0, (B6.cell (p := ⟨w2.heap.size, 1, none⟩) hsl5).trans g1, (B6.cell (p := ⟨w2.heap.size, 2, none⟩) hsl5).trans g2, (B6.cell (p := ⟨w2.heap.size, 3, none⟩) hsl5).trans g3⟩) (first | (refine step_appL rfl (.tmp 52) (.tmp 55) 25 rfl w5.heap.size 58 _ 4 32 Try.underlying25 info58 rfl (by omega) (.slice (some ⟨w5.heap.size, 0, none⟩) 0 0) 0 [] (by simp [Act.eval, Act.put]) (by with_reducible exact OA.out) (some ⟨g, 0, none⟩) q c (cells4 (xs.take q)) (by simp [Act.eval, Act.put]) HKT.out (RAA.out) (oneCell_cells4 _) (by unfold maxLen; omega) (by omega) (by first | exact HS0.out | exact B6.size | exact (B6.alloc B6.size _).size | exact B7.size | (simp <;> omega)) ?_; intro v6 w6 o6 g6w _; have B6 := BBA.out.grown g6w BBA.out.size (fun j hj => (OA.out.lt j hj).1)) | (refine step_appL rfl (.tmp 52) (.tmp 55) 25 rfl w5.heap.size 58 _ 4 32 Try.underlying25 info58 rfl (by omega) (.slice (some ⟨w5.heap.size, 0, none⟩) 0 0) 0 [] (by simp [Act.eval, Act.put]) (by with_reducible exact OB.out) (some ⟨g, 0, none⟩) q c (cells4 (xs.take q)) (by simp [Act.eval, Act.put]) HKT.out (RAB.out) (oneCell_cells4 _) (by unfold maxLen; omega) (by omega) (by first | exact HS0.out | exact B6.size | exact (B6.alloc B6.size _).size | exact B7.size | (simp <;> omega)) ?_; intro v6 w6 o6 g6w _; have B6 := BBB.out.grown g6w BBB.out.size (fun j hj => (OB.out.lt j hj).1); have RX6 := rd_grown g6w RXB.out (by simp <;> omega) (by simp [Value.ownBlock])) | (refine step_appL rfl (.tmp 52) (.tmp 55) 25 rfl w5.heap.size 58 _ 4 32 Try.underlying25 info58 rfl (by omega) (.slice (some ⟨w5.heap.size + 1, 0, none⟩) 0 0) 0 [] (by simp [Act.eval, Act.put]) (by with_reducible exact OC.out) (some ⟨g, 0, none⟩) q c (cells4 (xs.take q)) (by simp [Act.eval, Act.put]) HKT.out (RAC.out) (oneCell_cells4 _) (by unfold maxLen; omega) (by omega) (by first | exact HS0.out | exact B6.size | exact (B6.alloc B6.size _).size | exact B7.size | (simp <;> omega)) ?_; intro v6 w6 o6 g6w _; have B6 := BBC.out.grown g6w BBC.out.size (fun j hj => (OC.out.lt j hj).1); have RX6 := rd_grown g6w RXC.out (by simp <;> omega) (by simp [Value.ownBlock])) | (refine step_appL rfl (.tmp 56) (.tmp 58) 25 rfl w5.heap.size 58 _ 4 32 Try.underlying25 info58 rfl (by omega) v6 _ _ (by simp [Act.eval, Act.put]) (by with_reducible exact o6.alloc _) (some ⟨w6.heap.size, 0, none⟩) 1 1 x.cells (by simp [Act.eval, Act.put]) HX4.out (rd_new #[.int .i64 x.a, .int .i64 x.b, .int .i64 x.c, .int .i64 x.d] 58 rfl) (oneCell_4 x) (by unfold maxLen; omega) (by omega) (by first | exact HS0.out | exact B6.size | exact (B6.alloc B6.size _).size | exact B7.size | (simp <;> omega)) ?_; intro v7 w7 o7 g7w _; have B7 : Below w5.heap.size w5 w7 := (B6.alloc B6.size _).grown g7w (B6.alloc B6.size _).size (fun j hj => (o6.lt j hj).1)) | (refine step_appL rfl (.tmp 56) (.tmp 58) 25 rfl w5.heap.size 58 _ 4 32 Try.underlying25 info58 rfl (by omega) v6 _ _ (by simp [Act.eval, Act.put]) (by with_reducible exact o6) (some ⟨(w5.heap.size + 1), 0, none⟩) 1 1 x.cells (by simp [Act.eval, Act.put]) HX4.out (RX6) (oneCell_4 x) (by unfold maxLen; omega) (by omega) (by first | exact HS0.out | exact B6.size | exact (B6.alloc B6.size _).size | exact B7.size | (simp <;> omega)) ?_; intro v7 w7 o7 g7w _; have B7 : Below w5.heap.size w5 w7 := B6.grown g7w B6.size (fun j hj => (o6.lt j hj).1)) | (refine step_appL rfl (.tmp 56) (.tmp 58) 25 rfl w5.heap.size 58 _ 4 32 Try.underlying25 info58 rfl (by omega) v6 _ _ (by simp [Act.eval, Act.put]) (by with_reducible exact o6) (some ⟨w5.heap.size, 0, none⟩) 1 1 x.cells (by simp [Act.eval, Act.put]) HX4.out (RX6) (oneCell_4 x) (by unfold maxLen; omega) (by omega) (by first | exact HS0.out | exact B6.size | exact (B6.alloc B6.size _).size | exact B7.size | (simp <;> omega)) ?_; intro v7 w7 o7 g7w _; have B7 : Below w5.heap.size w5 w7 := B6.grown g7w B6.size (fun j hj => (o6.lt j hj).1)) | (refine step_appL rfl (.tmp 59) (.tmp 62) 25 rfl w5.heap.size 58 _ 4 32 Try.underlying25 info58 rfl (by omega) v7 _ _ (by simp [Act.eval, Act.put]) (by with_reducible exact o7) (some ⟨g, 0, none⟩) (xs.length - q) (c - q) (cells4 (xs.drop q)) (by simp [Act.eval, Act.put, hif1, hif2]) HDT.out (.inl (by rw [HDN.out]; rfl)) (oneCell_cells4 _) (by unfold maxLen; omega) (by omega) (by first | exact HS0.out | exact B6.size | exact (B6.alloc B6.size _).size | exact B7.size | (simp <;> omega)) ?_; intro v8 w8 o8 g8w _; have B8 : Below w5.heap.size w5 w8 := B7.grown g8w B7.size (fun j hj => (o7.lt j hj).1)))
                  all_goals go_goals
                  all_goals (
                    obtain ⟨ys, hys⟩ : ∃ ys, ys = xs.take q ++ x :: xs.drop q := ⟨_, rfl⟩
                    have EC : [] ++ cells4 (xs.take q) ++ x.cells ++ cells4 (xs.drop q) = cells4 ys := by rw [hys, cells4_append, cells4_cons, List.nil_append, List.append_assoc]
                    have EL : ys.length = xs.length + 1 := by rw [hys, List.length_append, List.length_cons, List.length_take, List.length_drop]; omega
                    have EN : 0 + q + 1 + (xs.length - q) = ys.length := by rw [EL]; omega
                    rw [EC, EN] at o8
                    have HLN := Lib.hid (HL5.out.new o8 B8)
                    have hsy : ∀ y ∈ ys, sm4 y := fun y hy => by
                      rw [hys] at hy
                      rcases List.mem_append.1 hy with h | h
                      · exact HSM.out y (List.mem_of_mem_take h)
                      · rcases List.mem_cons.1 h with rfl | h
                        · exact HXS.out
                        · exact HSM.out y (List.mem_of_mem_drop h)
                    obtain ⟨g8, c8, rfl⟩ := own_formS o8 (by omega)
                    have HSY := Lib.hid hsy
                    clear EC EN hys hsy o8 o7 o6 g8w g7w g6w OA OB OC BBA BBB BBC RAA RAB RAC
                    go_wp2_with fail
                    go_roundw
                    case rel => exact ⟨j - 1, ys, k2, by go_num, by omega, by omega, by omega, HSY.out, ⟨_, _, rfl⟩, HLN.out⟩
                    case measure => (simp [intOf]; omega))
                · have hce2 : ¬ q = c := fun h => hce h.symm
                  have HR5 := Lib.hid (Rd.of_own HL5.out.own)
                  have hs5 := HL5.out.sz
                  have HKT := Lib.hid (show (cells4 (xs.take q)).length = q * 4 by rw [length_cells4, List.length_take, Nat.min_eq_left (by omega)])
                  have HDT := Lib.hid (show (cells4 (xs.drop q)).length = (xs.length - q) * 4 by rw [length_cells4, List.length_drop])
                  have HX4 := Lib.hid (show x.cells.length = 1 * 4 from rfl)
                  have HS0 := Lib.hid (Nat.le_refl w5.heap.size)
                  have OA : Hid (((w5.alloc (.cells #[] 58)).drew).ownsRow w5.heap.size 58 4 (.slice (some ⟨w5.heap.size, 0, none⟩) 0 0) 0 []) := Lib.hid (own_empty w5 _ _ _ (Nat.le_refl _))
                  have BBA : Hid (Below w5.heap.size w5 ((w5.alloc (.cells #[] 58)).drew)) := Lib.hid ((Below.refl _ _).alloc (Nat.le_refl _) _).drew
                  have RAA : Hid (Rd ((w5.alloc (.cells #[] 58)).drew) (some ⟨g, 0, none⟩) (cells4 (xs.take q))) := Lib.hid (rd_take4 (HR5.out.below BBA.out) q)
                  have OB : Hid ((((w5.alloc (.cells #[] 58)).alloc (.cells #[.int .i64 x.a, .int .i64 x.b, .int .i64 x.c, .int .i64 x.d] 58)).drew).ownsRow w5.heap.size 58 4 (.slice (some ⟨w5.heap.size, 0, none⟩) 0 0) 0 []) := Lib.hid ((own_empty w5 _ _ _ (Nat.le_refl _)).alloc _)
                  have BBB : Hid (Below w5.heap.size w5 (((w5.alloc (.cells #[] 58)).alloc (.cells #[.int .i64 x.a, .int .i64 x.b, .int .i64 x.c, .int .i64 x.d] 58)).drew)) := Lib.hid ((((Below.refl _ _).alloc (Nat.le_refl _) _).alloc (by simp) _).drew)
                  have RXB : Hid (Rd (((w5.alloc (.cells #[] 58)).alloc (.cells #[.int .i64 x.a, .int .i64 x.b, .int .i64 x.c, .int .i64 x.d] 58)).drew) (some ⟨w5.heap.size + 1, 0, none⟩) x.cells) := Lib.hid (rd_new #[.int .i64 x.a, .int .i64 x.b, .int .i64 x.c, .int .i64 x.d] 58 (by simp))
                  have RAB : Hid (Rd (((w5.alloc (.cells #[] 58)).alloc (.cells #[.int .i64 x.a, .int .i64 x.b, .int .i64 x.c, .int .i64 x.d] 58)).drew) (some ⟨g, 0, none⟩) (cells4 (xs.take q))) := Lib.hid (rd_take4 (HR5.out.below BBB.out) q)
                  have OC : Hid ((((w5.alloc (.cells #[.int .i64 x.a, .int .i64 x.b, .int .i64 x.c, .int .i64 x.d] 58)).alloc (.cells #[] 58)).drew).ownsRow w5.heap.size 58 4 (.slice (some ⟨(w5.heap.size + 1), 0, none⟩) 0 0) 0 []) := Lib.hid (own_empty' (by simp) (by simp))
                  have BBC : Hid (Below w5.heap.size w5 (((w5.alloc (.cells #[.int .i64 x.a, .int .i64 x.b, .int .i64 x.c, .int .i64 x.d] 58)).alloc (.cells #[] 58)).drew)) := Lib.hid ((((Below.refl _ _).alloc (Nat.le_refl _) _).alloc (by simp) _).drew)
                  have RXC : Hid (Rd (((w5.alloc (.cells #[.int .i64 x.a, .int .i64 x.b, .int .i64 x.c, .int .i64 x.d] 58)).alloc (.cells #[] 58)).drew) (some ⟨w5.heap.size, 0, none⟩) x.cells) := Lib.hid ((rd_new #[.int .i64 x.a, .int .i64 x.b, .int .i64 x.c, .int .i64 x.d] 58 rfl).alloc _)
                  have RAC : Hid (Rd (((w5.alloc (.cells #[.int .i64 x.a, .int .i64 x.b, .int .i64 x.c, .int .i64 x.d] 58)).alloc (.cells #[] 58)).drew) (some ⟨g, 0, none⟩) (cells4 (xs.take q))) := Lib.hid (rd_take4 (HR5.out.below BBC.out) q)
                  go_wp2_with fail
                  go_region_held3 (fun w' => w'.cell? ⟨w2.heap.size, 0, none⟩ = some (.int .i64 x.a) ∧ w'.cell? ⟨w2.heap.size, 1, none⟩ = some (.int .i64 x.b) ∧ w'.cell? ⟨w2.heap.size, 2, none⟩ = some (.int .i64 x.c) ∧ w'.cell? ⟨w2.heap.size, 3, none⟩ = some (.int .i64 x.d)) (first | go_keep | exact ⟨(B8.cell (p := ⟨w2.heap.size, 0, none⟩) hsl5).trans g0, (B8.cell (p := ⟨w2.heap.size, 1, none⟩) hsl5).trans g1, (B8.cell (p := ⟨w2.heap.size, 2, none⟩) hsl5).trans g2, (B8.cell (p := ⟨w2.heap.size, 3, none⟩) hsl5).trans g3⟩ | exact ⟨(B7.cell (p := ⟨w2.heap.size, 0, none⟩) hsl5).trans g0, (B7.cell (p := ⟨w2.heap.size, 1, none⟩) hsl5).trans g1, (B7.cell (p := ⟨w2.heap.size, 2, none⟩) hsl5).trans g2, (B7.cell (p := ⟨w2.heap.size, 3, none⟩) hsl5).trans g3⟩ | exact ⟨(B6.cell (p := ⟨w2.heap.size, 0, none⟩) hsl5).trans g0, (B6.cell (p := ⟨w2.heap.size, 1, none⟩) hsl5).trans g1, (B6.cell (p := ⟨w2.heap.size, 2, none⟩) hsl5).trans g2, (B6.cell (p := ⟨w2.heap.size, 3, none⟩) hsl5).trans g3⟩) (first | (refine step_appL rfl (.tmp 52) (.tmp 55) 25 rfl w5.heap.size 58 _ 4 32 Try.underlying25 info58 rfl (by omega) (.slice (some ⟨w5.heap.size, 0, none⟩) 0 0) 0 [] (by simp [Act.eval, Act.put]) (by with_reducible exact OA.out) (some ⟨g, 0, none⟩) q c (cells4 (xs.take q)) (by simp [Act.eval, Act.put]) HKT.out (RAA.out) (oneCell_cells4 _) (by unfold maxLen; omega) (by omega) (by first | exact HS0.out | exact B6.size | exact (B6.alloc B6.size _).size | exact B7.size | (simp <;> omega)) ?_; intro v6 w6 o6 g6w _; have B6 := BBA.out.grown g6w BBA.out.size (fun j hj => (OA.out.lt j hj).1)) | (refine step_appL rfl (.tmp 52) (.tmp 55) 25 rfl w5.heap.size 58 _ 4 32 Try.underlying25 info58 rfl (by omega) (.slice (some ⟨w5.heap.size, 0, none⟩) 0 0) 0 [] (by simp [Act.eval, Act.put]) (by with_reducible exact OB.out) (some ⟨g, 0, none⟩) q c (cells4 (xs.take q)) (by simp [Act.eval, Act.put]) HKT.out (RAB.out) (oneCell_cells4 _) (by unfold maxLen; omega) (by omega) (by first | exact HS0.out | exact B6.size | exact (B6.alloc B6.size _).size | exact B7.size | (simp <;> omega)) ?_; intro v6 w6 o6 g6w _; have B6 := BBB.out.grown g6w BBB.out.size (fun j hj => (OB.out.lt j hj).1); have RX6 := rd_grown g6w RXB.out (by simp <;> omega) (by simp [Value.ownBlock])) | (refine step_appL rfl (.tmp 52) (.tmp 55) 25 rfl w5.heap.size 58 _ 4 32 Try.underlying25 info58 rfl (by omega) (.slice (some ⟨w5.heap.size + 1, 0, none⟩) 0 0) 0 [] (by simp [Act.eval, Act.put]) (by with_reducible exact OC.out) (some ⟨g, 0, none⟩) q c (cells4 (xs.take q)) (by simp [Act.eval, Act.put]) HKT.out (RAC.out) (oneCell_cells4 _) (by unfold maxLen; omega) (by omega) (by first | exact HS0.out | exact B6.size | exact (B6.alloc B6.size _).size | exact B7.size | (simp <;> omega)) ?_; intro v6 w6 o6 g6w _; have B6 := BBC.out.grown g6w BBC.out.size (fun j hj => (OC.out.lt j hj).1); have RX6 := rd_grown g6w RXC.out (by simp <;> omega) (by simp [Value.ownBlock])) | (refine step_appL rfl (.tmp 56) (.tmp 58) 25 rfl w5.heap.size 58 _ 4 32 Try.underlying25 info58 rfl (by omega) v6 _ _ (by simp [Act.eval, Act.put]) (by with_reducible exact o6.alloc _) (some ⟨w6.heap.size, 0, none⟩) 1 1 x.cells (by simp [Act.eval, Act.put]) HX4.out (rd_new #[.int .i64 x.a, .int .i64 x.b, .int .i64 x.c, .int .i64 x.d] 58 rfl) (oneCell_4 x) (by unfold maxLen; omega) (by omega) (by first | exact HS0.out | exact B6.size | exact (B6.alloc B6.size _).size | exact B7.size | (simp <;> omega)) ?_; intro v7 w7 o7 g7w _; have B7 : Below w5.heap.size w5 w7 := (B6.alloc B6.size _).grown g7w (B6.alloc B6.size _).size (fun j hj => (o6.lt j hj).1)) | (refine step_appL rfl (.tmp 56) (.tmp 58) 25 rfl w5.heap.size 58 _ 4 32 Try.underlying25 info58 rfl (by omega) v6 _ _ (by simp [Act.eval, Act.put]) (by with_reducible exact o6) (some ⟨(w5.heap.size + 1), 0, none⟩) 1 1 x.cells (by simp [Act.eval, Act.put]) HX4.out (RX6) (oneCell_4 x) (by unfold maxLen; omega) (by omega) (by first | exact HS0.out | exact B6.size | exact (B6.alloc B6.size _).size | exact B7.size | (simp <;> omega)) ?_; intro v7 w7 o7 g7w _; have B7 : Below w5.heap.size w5 w7 := B6.grown g7w B6.size (fun j hj => (o6.lt j hj).1)) | (refine step_appL rfl (.tmp 56) (.tmp 58) 25 rfl w5.heap.size 58 _ 4 32 Try.underlying25 info58 rfl (by omega) v6 _ _ (by simp [Act.eval, Act.put]) (by with_reducible exact o6) (some ⟨w5.heap.size, 0, none⟩) 1 1 x.cells (by simp [Act.eval, Act.put]) HX4.out (RX6) (oneCell_4 x) (by unfold maxLen; omega) (by omega) (by first | exact HS0.out | exact B6.size | exact (B6.alloc B6.size _).size | exact B7.size | (simp <;> omega)) ?_; intro v7 w7 o7 g7w _; have B7 : Below w5.heap.size w5 w7 := B6.grown g7w B6.size (fun j hj => (o6.lt j hj).1)) | (refine step_appL rfl (.tmp 59) (.tmp 62) 25 rfl w5.heap.size 58 _ 4 32 Try.underlying25 info58 rfl (by omega) v7 _ _ (by simp [Act.eval, Act.put]) (by with_reducible exact o7) (some ⟨g, q * 4, none⟩) (xs.length - q) (c - q) (cells4 (xs.drop q)) (by simp [Act.eval, Act.put, hce, hce2]) HDT.out (by have h := rd_drop4 (HR5.out.below B7) q; rw [Nat.zero_add] at h; exact h) (oneCell_cells4 _) (by unfold maxLen; omega) (by omega) (by first | exact HS0.out | exact B6.size | exact (B6.alloc B6.size _).size | exact B7.size | (simp <;> omega)) ?_; intro v8 w8 o8 g8w _; have B8 : Below w5.heap.size w5 w8 := B7.grown g8w B7.size (fun j hj => (o7.lt j hj).1)))
                  all_goals go_goals
                  all_goals (
                    obtain ⟨ys, hys⟩ : ∃ ys, ys = xs.take q ++ x :: xs.drop q := ⟨_, rfl⟩
                    have EC : [] ++ cells4 (xs.take q) ++ x.cells ++ cells4 (xs.drop q) = cells4 ys := by rw [hys, cells4_append, cells4_cons, List.nil_append, List.append_assoc]
                    have EL : ys.length = xs.length + 1 := by rw [hys, List.length_append, List.length_cons, List.length_take, List.length_drop]; omega
                    have EN : 0 + q + 1 + (xs.length - q) = ys.length := by rw [EL]; omega
                    rw [EC, EN] at o8
                    have HLN := Lib.hid (HL5.out.new o8 B8)
                    have hsy : ∀ y ∈ ys, sm4 y := fun y hy => by
                      rw [hys] at hy
                      rcases List.mem_append.1 hy with h | h
                      · exact HSM.out y (List.mem_of_mem_take h)
                      · rcases List.mem_cons.1 h with rfl | h
                        · exact HXS.out
                        · exact HSM.out y (List.mem_of_mem_drop h)
                    obtain ⟨g8, c8, rfl⟩ := own_formS o8 (by omega)
                    have HSY := Lib.hid hsy
                    clear EC EN hys hsy o8 o7 o6 g8w g7w g6w OA OB OC BBA BBB BBC RAA RAB RAC
                    go_wp2_with fail
                    go_roundw
                    case rel => exact ⟨j - 1, ys, k2, by go_num, by omega, by omega, by omega, HSY.out, ⟨_, _, rfl⟩, HLN.out⟩
                    case measure => (simp [intOf]; omega))
      | false =>
        have CX := Lib.hid (fun w => CO.out x w HXS.out.2.2.2)
        rw [hv] at CX
        clear hv
        go_wp2_with fail
        refine (CX.out _).mono ?_
        rintro e w3 ⟨rfl, b3⟩
        have HL3 := Lib.hid (HL2b.out.below b3)
        have KX3 := Lib.hid (KX2.out.below b3 KX2.out.lt)
        clear b3 HL2b KX2 HL2 CX
        go_wp2_with fail
        refine (ON.out k2 30 _ HL3.out.cur (by omega) (by decide) (by decide)).mono ?_
        rintro e w9 ⟨v9, k9, rfl, ⟨b9, rfl⟩, hk9, hc, hg⟩
        have HL9 := Lib.hid (HL3.out.call hp hc hg)
        have KX9 := Lib.hid (KX3.out.grown hg (fun e => by injection e with e; omega))
        clear hc hg HL3 KX3
        cases b9 with
        | false =>
          go_wp2
          go_roundw
          case rel => exact ⟨j - 1, xs, k9, by go_num, by omega, by omega, by omega, HSM.out, ⟨_, _, rfl⟩, HL9.out⟩
          case measure => simp [intOf]; omega
        | true =>
          have hsS := HL9.out.sz
          have hbxl : w2.heap.size < w9.heap.size := KX9.out.lt
          go_wp2_with fail
          go_loopw [6] (fun i wr => ∃ q : Nat, i = .int .i64 q ∧ q ≤ xs.length ∧ Below w9.heap.size w9 wr) (fun i _ => (intOf i).toNat)
          case atStart => exact ⟨xs.length, rfl, by omega, Below.refl _ _⟩
          case round =>
            obtain ⟨q, rfl, hq, hbq⟩ := hrel
            have HLr := Lib.hid (HL9.out.below hbq)
            have KXr := Lib.hid (KX9.out.below hbq KX9.out.lt)
            have HBq := Lib.hid hbq
            have hsq := hbq.size
            clear hbq
            have e0 := KXr.out.cell 0 _ rfl
            have e1 := KXr.out.cell 1 _ rfl
            have e2 := KXr.out.cell 2 _ rfl
            have e3 := KXr.out.cell 3 _ rfl
            have hxl := KXr.out.lt
            have C1 := Lib.hid (fun w => CK.out x w HXS.out)
            by_cases hq0 : q ≤ 0
            · have hd : decide (0 < q) = false := by simp; omega
              have hdi : decide ((0 : Int) < (q : Int)) = false := by simp; omega
              go_wp2_with fail
              refine wp_region_lat wr.heap.size (by kernel_rfl) (by kernel_rfl) ?_
              have LC := fun (u : Lat wr.heap.size wr) => u.cell
              repeat (go_big_quiet_step (fail))
              refine wpQuiet_nil ?_
              intro w4 b4
              clear LC
              have HL4 := Lib.hid (HLr.out.below b4)
              have KX4 := Lib.hid (KXr.out.below b4 KXr.out.lt)
              clear b4 e0 e1 e2 e3 HLr KXr
              obtain rfl : q = 0 := by omega
              rw [show ((0 : Nat) : Int) = 0 from rfl]
              have e0 : w4.cell? ⟨w2.heap.size, 0, none⟩ = some (.int .i64 x.a) := KX4.out.cell 0 _ rfl
              have e1 : w4.cell? ⟨w2.heap.size, 1, none⟩ = some (.int .i64 x.b) := KX4.out.cell 1 _ rfl
              have e2 : w4.cell? ⟨w2.heap.size, 2, none⟩ = some (.int .i64 x.c) := KX4.out.cell 2 _ rfl
              have e3 : w4.cell? ⟨w2.heap.size, 3, none⟩ = some (.int .i64 x.d) := KX4.out.cell 3 _ rfl
              have hxl4 : w2.heap.size < w4.heap.size := KX4.out.lt
              go_wp2_with fail
              refine wp_region_lat w4.heap.size (by kernel_rfl) (by kernel_rfl) ?_
              have LC := fun (u : Lat w4.heap.size w4) => u.cell
              repeat (go_big_quiet_step (fail))
              refine wpQuiet_nil ?_
              intro w5 b5
              clear LC
              have HL5 := Lib.hid (HL4.out.below b5)
              have g0 : w5.cell? ⟨w2.heap.size, 0, none⟩ = some (.int .i64 x.a) := (b5.cell (p := ⟨w2.heap.size, 0, none⟩) hxl4).trans e0
              have g1 : w5.cell? ⟨w2.heap.size, 1, none⟩ = some (.int .i64 x.b) := (b5.cell (p := ⟨w2.heap.size, 1, none⟩) hxl4).trans e1
              have g2 : w5.cell? ⟨w2.heap.size, 2, none⟩ = some (.int .i64 x.c) := (b5.cell (p := ⟨w2.heap.size, 2, none⟩) hxl4).trans e2
              have g3 : w5.cell? ⟨w2.heap.size, 3, none⟩ = some (.int .i64 x.d) := (b5.cell (p := ⟨w2.heap.size, 3, none⟩) hxl4).trans e3
              have hsl5 : w2.heap.size < w5.heap.size := Nat.lt_of_lt_of_le hxl4 b5.size
              clear b5 e0 e1 e2 e3 HL4 KX4
              have HR5 := Lib.hid (Rd.of_own HL5.out.own)
              have hs5 := HL5.out.sz
              have HKT := Lib.hid (show (cells4 (xs.take 0)).length = 0 * 4 by rw [length_cells4, List.length_take, Nat.min_eq_left (by omega)])
              have HDT := Lib.hid (show (cells4 (xs.drop 0)).length = xs.length * 4 by rw [length_cells4, List.length_drop, Nat.sub_zero])
              have HX4 := Lib.hid (show x.cells.length = 1 * 4 from rfl)
              have HS0 := Lib.hid (Nat.le_refl w5.heap.size)
              have OA : Hid (((w5.alloc (.cells #[] 58)).drew).ownsRow w5.heap.size 58 4 (.slice (some ⟨w5.heap.size, 0, none⟩) 0 0) 0 []) := Lib.hid (own_empty w5 _ _ _ (Nat.le_refl _))
              have BBA : Hid (Below w5.heap.size w5 ((w5.alloc (.cells #[] 58)).drew)) := Lib.hid ((Below.refl _ _).alloc (Nat.le_refl _) _).drew
              have RAA : Hid (Rd ((w5.alloc (.cells #[] 58)).drew) (some ⟨g, 0, none⟩) (cells4 (xs.take 0))) := Lib.hid (rd_take4 (HR5.out.below BBA.out) 0)
              have OB : Hid ((((w5.alloc (.cells #[] 58)).alloc (.cells #[.int .i64 x.a, .int .i64 x.b, .int .i64 x.c, .int .i64 x.d] 58)).drew).ownsRow w5.heap.size 58 4 (.slice (some ⟨w5.heap.size, 0, none⟩) 0 0) 0 []) := Lib.hid ((own_empty w5 _ _ _ (Nat.le_refl _)).alloc _)
              have BBB : Hid (Below w5.heap.size w5 (((w5.alloc (.cells #[] 58)).alloc (.cells #[.int .i64 x.a, .int .i64 x.b, .int .i64 x.c, .int .i64 x.d] 58)).drew)) := Lib.hid ((((Below.refl _ _).alloc (Nat.le_refl _) _).alloc (by simp) _).drew)
              have RXB : Hid (Rd (((w5.alloc (.cells #[] 58)).alloc (.cells #[.int .i64 x.a, .int .i64 x.b, .int .i64 x.c, .int .i64 x.d] 58)).drew) (some ⟨w5.heap.size + 1, 0, none⟩) x.cells) := Lib.hid (rd_new #[.int .i64 x.a, .int .i64 x.b, .int .i64 x.c, .int .i64 x.d] 58 (by simp))
              have RAB : Hid (Rd (((w5.alloc (.cells #[] 58)).alloc (.cells #[.int .i64 x.a, .int .i64 x.b, .int .i64 x.c, .int .i64 x.d] 58)).drew) (some ⟨g, 0, none⟩) (cells4 (xs.take 0))) := Lib.hid (rd_take4 (HR5.out.below BBB.out) 0)
              have OC : Hid ((((w5.alloc (.cells #[.int .i64 x.a, .int .i64 x.b, .int .i64 x.c, .int .i64 x.d] 58)).alloc (.cells #[] 58)).drew).ownsRow w5.heap.size 58 4 (.slice (some ⟨(w5.heap.size + 1), 0, none⟩) 0 0) 0 []) := Lib.hid (own_empty' (by simp) (by simp))
              have BBC : Hid (Below w5.heap.size w5 (((w5.alloc (.cells #[.int .i64 x.a, .int .i64 x.b, .int .i64 x.c, .int .i64 x.d] 58)).alloc (.cells #[] 58)).drew)) := Lib.hid ((((Below.refl _ _).alloc (Nat.le_refl _) _).alloc (by simp) _).drew)
              have RXC : Hid (Rd (((w5.alloc (.cells #[.int .i64 x.a, .int .i64 x.b, .int .i64 x.c, .int .i64 x.d] 58)).alloc (.cells #[] 58)).drew) (some ⟨w5.heap.size, 0, none⟩) x.cells) := Lib.hid ((rd_new #[.int .i64 x.a, .int .i64 x.b, .int .i64 x.c, .int .i64 x.d] 58 rfl).alloc _)
              have RAC : Hid (Rd (((w5.alloc (.cells #[.int .i64 x.a, .int .i64 x.b, .int .i64 x.c, .int .i64 x.d] 58)).alloc (.cells #[] 58)).drew) (some ⟨g, 0, none⟩) (cells4 (xs.take 0))) := Lib.hid (rd_take4 (HR5.out.below BBC.out) 0)
              go_wp2_with fail
              go_region_held3 (fun w' => w'.cell? ⟨w2.heap.size, 0, none⟩ = some (.int .i64 x.a) ∧ w'.cell? ⟨w2.heap.size, 1, none⟩ = some (.int .i64 x.b) ∧ w'.cell? ⟨w2.heap.size, 2, none⟩ = some (.int .i64 x.c) ∧ w'.cell? ⟨w2.heap.size, 3, none⟩ = some (.int .i64 x.d)) (first | go_keep | exact ⟨(B8.cell (p := ⟨w2.heap.size, 0, none⟩) hsl5).trans g0, (B8.cell (p := ⟨w2.heap.size, 1, none⟩) hsl5).trans g1, (B8.cell (p := ⟨w2.heap.size, 2, none⟩) hsl5).trans g2, (B8.cell (p := ⟨w2.heap.size, 3, none⟩) hsl5).trans g3⟩ | exact ⟨(B7.cell (p := ⟨w2.heap.size, 0, none⟩) hsl5).trans g0, (B7.cell (p := ⟨w2.heap.size, 1, none⟩) hsl5).trans g1, (B7.cell (p := ⟨w2.heap.size, 2, none⟩) hsl5).trans g2, (B7.cell (p := ⟨w2.heap.size, 3, none⟩) hsl5).trans g3⟩ | exact ⟨(B6.cell (p := ⟨w2.heap.size, 0, none⟩) hsl5).trans g0, (B6.cell (p := ⟨w2.heap.size, 1, none⟩) hsl5).trans g1, (B6.cell (p := ⟨w2.heap.size, 2, none⟩) hsl5).trans g2, (B6.cell (p := ⟨w2.heap.size, 3, none⟩) hsl5).trans g3⟩) (first | (refine step_appL rfl (.tmp 52) (.tmp 55) 25 rfl w5.heap.size 58 _ 4 32 Try.underlying25 info58 rfl (by omega) (.slice (some ⟨w5.heap.size, 0, none⟩) 0 0) 0 [] (by simp [Act.eval, Act.put]) (by with_reducible exact OA.out) (some ⟨g, 0, none⟩) 0 c (cells4 (xs.take 0)) (by simp [Act.eval, Act.put]) HKT.out (RAA.out) (oneCell_cells4 _) (by unfold maxLen; omega) (by omega) (by first | exact HS0.out | exact B6.size | exact (B6.alloc B6.size _).size | exact B7.size | (simp <;> omega)) ?_; intro v6 w6 o6 g6w _; have B6 := BBA.out.grown g6w BBA.out.size (fun j hj => (OA.out.lt j hj).1)) | (refine step_appL rfl (.tmp 52) (.tmp 55) 25 rfl w5.heap.size 58 _ 4 32 Try.underlying25 info58 rfl (by omega) (.slice (some ⟨w5.heap.size, 0, none⟩) 0 0) 0 [] (by simp [Act.eval, Act.put]) (by with_reducible exact OB.out) (some ⟨g, 0, none⟩) 0 c (cells4 (xs.take 0)) (by simp [Act.eval, Act.put]) HKT.out (RAB.out) (oneCell_cells4 _) (by unfold maxLen; omega) (by omega) (by first | exact HS0.out | exact B6.size | exact (B6.alloc B6.size _).size | exact B7.size | (simp <;> omega)) ?_; intro v6 w6 o6 g6w _; have B6 := BBB.out.grown g6w BBB.out.size (fun j hj => (OB.out.lt j hj).1); have RX6 := rd_grown g6w RXB.out (by simp <;> omega) (by simp [Value.ownBlock])) | (refine step_appL rfl (.tmp 52) (.tmp 55) 25 rfl w5.heap.size 58 _ 4 32 Try.underlying25 info58 rfl (by omega) (.slice (some ⟨w5.heap.size + 1, 0, none⟩) 0 0) 0 [] (by simp [Act.eval, Act.put]) (by with_reducible exact OC.out) (some ⟨g, 0, none⟩) 0 c (cells4 (xs.take 0)) (by simp [Act.eval, Act.put]) HKT.out (RAC.out) (oneCell_cells4 _) (by unfold maxLen; omega) (by omega) (by first | exact HS0.out | exact B6.size | exact (B6.alloc B6.size _).size | exact B7.size | (simp <;> omega)) ?_; intro v6 w6 o6 g6w _; have B6 := BBC.out.grown g6w BBC.out.size (fun j hj => (OC.out.lt j hj).1); have RX6 := rd_grown g6w RXC.out (by simp <;> omega) (by simp [Value.ownBlock])) | (refine step_appL rfl (.tmp 56) (.tmp 58) 25 rfl w5.heap.size 58 _ 4 32 Try.underlying25 info58 rfl (by omega) v6 _ _ (by simp [Act.eval, Act.put]) (by with_reducible exact o6.alloc _) (some ⟨w6.heap.size, 0, none⟩) 1 1 x.cells (by simp [Act.eval, Act.put]) HX4.out (rd_new #[.int .i64 x.a, .int .i64 x.b, .int .i64 x.c, .int .i64 x.d] 58 rfl) (oneCell_4 x) (by unfold maxLen; omega) (by omega) (by first | exact HS0.out | exact B6.size | exact (B6.alloc B6.size _).size | exact B7.size | (simp <;> omega)) ?_; intro v7 w7 o7 g7w _; have B7 : Below w5.heap.size w5 w7 := (B6.alloc B6.size _).grown g7w (B6.alloc B6.size _).size (fun j hj => (o6.lt j hj).1)) | (refine step_appL rfl (.tmp 56) (.tmp 58) 25 rfl w5.heap.size 58 _ 4 32 Try.underlying25 info58 rfl (by omega) v6 _ _ (by simp [Act.eval, Act.put]) (by with_reducible exact o6) (some ⟨(w5.heap.size + 1), 0, none⟩) 1 1 x.cells (by simp [Act.eval, Act.put]) HX4.out (RX6) (oneCell_4 x) (by unfold maxLen; omega) (by omega) (by first | exact HS0.out | exact B6.size | exact (B6.alloc B6.size _).size | exact B7.size | (simp <;> omega)) ?_; intro v7 w7 o7 g7w _; have B7 : Below w5.heap.size w5 w7 := B6.grown g7w B6.size (fun j hj => (o6.lt j hj).1)) | (refine step_appL rfl (.tmp 56) (.tmp 58) 25 rfl w5.heap.size 58 _ 4 32 Try.underlying25 info58 rfl (by omega) v6 _ _ (by simp [Act.eval, Act.put]) (by with_reducible exact o6) (some ⟨w5.heap.size, 0, none⟩) 1 1 x.cells (by simp [Act.eval, Act.put]) HX4.out (RX6) (oneCell_4 x) (by unfold maxLen; omega) (by omega) (by first | exact HS0.out | exact B6.size | exact (B6.alloc B6.size _).size | exact B7.size | (simp <;> omega)) ?_; intro v7 w7 o7 g7w _; have B7 : Below w5.heap.size w5 w7 := B6.grown g7w B6.size (fun j hj => (o6.lt j hj).1)) | (refine step_appL rfl (.tmp 59) (.tmp 62) 25 rfl w5.heap.size 58 _ 4 32 Try.underlying25 info58 rfl (by omega) v7 _ _ (by simp [Act.eval, Act.put]) (by with_reducible exact o7) (some ⟨g, 0, none⟩) xs.length c (cells4 (xs.drop 0)) (by simp [Act.eval, Act.put]) HDT.out (by rw [List.drop_zero]; exact HR5.out.below B7) (oneCell_cells4 _) (by unfold maxLen; omega) (by omega) (by first | exact HS0.out | exact B6.size | exact (B6.alloc B6.size _).size | exact B7.size | (simp <;> omega)) ?_; intro v8 w8 o8 g8w _; have B8 : Below w5.heap.size w5 w8 := B7.grown g8w B7.size (fun j hj => (o7.lt j hj).1)))
              all_goals go_goals
              all_goals (
                obtain ⟨ys, hys⟩ : ∃ ys, ys = xs.take 0 ++ x :: xs.drop 0 := ⟨_, rfl⟩
                have EC : [] ++ cells4 (xs.take 0) ++ x.cells ++ cells4 (xs.drop 0) = cells4 ys := by rw [hys, cells4_append, cells4_cons, List.nil_append, List.append_assoc]
                have EL : ys.length = xs.length + 1 := by rw [hys, List.length_append, List.length_cons, List.length_take, List.length_drop]; omega
                have EN : 0 + 0 + 1 + xs.length = ys.length := by rw [EL]; omega
                rw [EC, EN] at o8
                have HLN := Lib.hid (HL5.out.new o8 B8)
                have hsy : ∀ y ∈ ys, sm4 y := fun y hy => by
                  rw [hys] at hy
                  rcases List.mem_append.1 hy with h | h
                  · exact HSM.out y (List.mem_of_mem_take h)
                  · rcases List.mem_cons.1 h with rfl | h
                    · exact HXS.out
                    · exact HSM.out y (List.mem_of_mem_drop h)
                obtain ⟨g8, c8, rfl⟩ := own_formS o8 (by omega)
                have HSY := Lib.hid hsy
                clear EC EN hys hsy o8 o7 o6 g8w g7w g6w OA OB OC BBA BBB BBC RAA RAB RAC
                go_wp2_with fail
                go_roundw
                case rel => exact ⟨j - 1, ys, k9, by go_num, by omega, by omega, by omega, HSY.out, ⟨_, _, rfl⟩, HLN.out⟩
                case measure => (simp [intOf]; omega))
            · obtain ⟨y, ey⟩ : ∃ y, xs[q - 1]? = some y := ⟨_, List.getElem?_eq_getElem (by omega)⟩
              obtain ⟨g9, o9, eA, hgl, d0, d1, d2, d3⟩ := (Rd.of_own HLr.out.own).at4 ey
              have hym := List.mem_of_getElem? ey
              have HYS := Lib.hid (HSM.out y hym)
              injection eA with eA
              injection eA with eA1 eA2
              subst eA1
              subst eA2
              rw [Nat.zero_add] at d0 d1 d2 d3
              have hp0 : 0 < q := by omega
              have hp1 : (0 : Int) < (q : Int) := by omega
              have hwq : IntKind.i64.wrap ((q : Int) - 1) = (q : Int) - 1 := IntWalk.i64_in _ (by omega)
              have hdq : decide (0 < q) = true := by simp; omega
              have hqz : ((q : Int) == 0) = false := by rw [beq_eq_false_iff_ne]; omega
              have HEY := Lib.hid ey
              clear ey hym
              have C2 := Lib.hid (fun w => CK.out y w HYS.out)
              by_cases hky : mlKey x < mlKey y
              · have hd1 : decide (mlKey x < mlKey y) = true := by simp [hky]
                go_wp2_with fail
                refine wp_region_lat wr.heap.size (by kernel_rfl) (by kernel_rfl) ?_
                have LC := fun (u : Lat wr.heap.size wr) => u.cell
                repeat (go_big_quiet_step (first | (go_at_call 42; (with_reducible exact lat_call _ (Nat.le_refl _) (C2.out _))) | (go_at_call 42; (with_reducible exact lat_call _ (Nat.le_refl _) (C1.out _)))))
                refine wpQuiet_nil ?_
                intro w4 b4
                clear LC
                have HBq4 := Lib.hid (HBq.out.trans (b4.mono hsq))
                clear b4
                go_wp2
                go_roundw
                case rel => exact ⟨q - 1, by rw [Int.natCast_sub (by omega)]; rfl, by omega, HBq4.out⟩
                case measure => simp [intOf]; omega
              · have hd1 : decide (mlKey x < mlKey y) = false := by simp; omega
                go_wp2_with fail
                refine wp_region_lat wr.heap.size (by kernel_rfl) (by kernel_rfl) ?_
                have LC := fun (u : Lat wr.heap.size wr) => u.cell
                repeat (go_big_quiet_step (first | (go_at_call 42; (with_reducible exact lat_call _ (Nat.le_refl _) (C2.out _))) | (go_at_call 42; (with_reducible exact lat_call _ (Nat.le_refl _) (C1.out _)))))
                refine wpQuiet_nil ?_
                intro w4 b4
                clear LC
                have HL4 := Lib.hid (HLr.out.below b4)
                have KX4 := Lib.hid (KXr.out.below b4 KXr.out.lt)
                have D0 := (b4.cell (p := ⟨g, (q - 1) * 4, none⟩) hgl).trans d0
                have D1 := (b4.cell (p := ⟨g, (q - 1) * 4 + 1, none⟩) hgl).trans d1
                have D2 := (b4.cell (p := ⟨g, (q - 1) * 4 + 2, none⟩) hgl).trans d2
                have D3 := (b4.cell (p := ⟨g, (q - 1) * 4 + 3, none⟩) hgl).trans d3
                have hgl4 := Nat.lt_of_lt_of_le hgl b4.size
                clear b4 e0 e1 e2 e3 d0 d1 d2 d3 HLr KXr
                have e0 : w4.cell? ⟨w2.heap.size, 0, none⟩ = some (.int .i64 x.a) := KX4.out.cell 0 _ rfl
                have e1 : w4.cell? ⟨w2.heap.size, 1, none⟩ = some (.int .i64 x.b) := KX4.out.cell 1 _ rfl
                have e2 : w4.cell? ⟨w2.heap.size, 2, none⟩ = some (.int .i64 x.c) := KX4.out.cell 2 _ rfl
                have e3 : w4.cell? ⟨w2.heap.size, 3, none⟩ = some (.int .i64 x.d) := KX4.out.cell 3 _ rfl
                have hxl4 : w2.heap.size < w4.heap.size := KX4.out.lt
                have hEG : ∀ (a b : Operand) (us vs : Array Value) (W : World), (eqGuard .neq 58 a b (.agg us) (.agg vs)).run Try.prog W = .ok () W := fun a b us vs W => guardMail .neq a b us vs W
                by_cases hyx : y = x
                · have hNE : ∀ W : World, (binOp .neq 58 (.agg #[.int .i64 y.a, .int .i64 y.b, .int .i64 y.c, .int .i64 y.d]) (.agg #[.int .i64 x.a, .int .i64 x.b, .int .i64 x.c, .int .i64 x.d])).run Try.prog W = .ok (.bool false) W := fun W => by rw [neqMail, show decide (y = x) = true by simp [hyx]]; rfl
                  have HYX := Lib.hid hyx
                  clear hyx
                  go_wp2_with fail
                  refine wp_region_lat w4.heap.size (by kernel_rfl) (by kernel_rfl) ?_
                  have LC := fun (u : Lat w4.heap.size w4) => u.cell
                  repeat (go_big_quiet_step (fail))
                  refine wpQuiet_nil ?_
                  intro w5 b5
                  clear LC
                  have HL5 := Lib.hid (HL4.out.below b5)
                  have g0 : w5.cell? ⟨w2.heap.size, 0, none⟩ = some (.int .i64 x.a) := (b5.cell (p := ⟨w2.heap.size, 0, none⟩) hxl4).trans e0
                  have g1 : w5.cell? ⟨w2.heap.size, 1, none⟩ = some (.int .i64 x.b) := (b5.cell (p := ⟨w2.heap.size, 1, none⟩) hxl4).trans e1
                  have g2 : w5.cell? ⟨w2.heap.size, 2, none⟩ = some (.int .i64 x.c) := (b5.cell (p := ⟨w2.heap.size, 2, none⟩) hxl4).trans e2
                  have g3 : w5.cell? ⟨w2.heap.size, 3, none⟩ = some (.int .i64 x.d) := (b5.cell (p := ⟨w2.heap.size, 3, none⟩) hxl4).trans e3
                  have hsl5 : w2.heap.size < w5.heap.size := Nat.lt_of_lt_of_le hxl4 b5.size
                  clear b5 e0 e1 e2 e3 HL4 KX4
                  clear hNE hEG D0 D1 D2 D3
                  go_wp2
                  go_roundw
                  case rel => exact ⟨j - 1, xs, k9, by go_num, by omega, by omega, by omega, HSM.out, ⟨_, _, rfl⟩, HL5.out⟩
                  case measure => simp [intOf]; omega
                · have hNE : ∀ W : World, (binOp .neq 58 (.agg #[.int .i64 y.a, .int .i64 y.b, .int .i64 y.c, .int .i64 y.d]) (.agg #[.int .i64 x.a, .int .i64 x.b, .int .i64 x.c, .int .i64 x.d])).run Try.prog W = .ok (.bool true) W := fun W => by rw [neqMail, show decide (y = x) = false by simp [hyx]]; rfl
                  have HYX := Lib.hid hyx
                  clear hyx
                  go_wp2_with fail
                  refine wp_region_lat w4.heap.size (by kernel_rfl) (by kernel_rfl) ?_
                  have LC := fun (u : Lat w4.heap.size w4) => u.cell
                  repeat (go_big_quiet_step (fail))
                  refine wpQuiet_nil ?_
                  intro w5 b5
                  clear LC
                  have HL5 := Lib.hid (HL4.out.below b5)
                  have g0 : w5.cell? ⟨w2.heap.size, 0, none⟩ = some (.int .i64 x.a) := (b5.cell (p := ⟨w2.heap.size, 0, none⟩) hxl4).trans e0
                  have g1 : w5.cell? ⟨w2.heap.size, 1, none⟩ = some (.int .i64 x.b) := (b5.cell (p := ⟨w2.heap.size, 1, none⟩) hxl4).trans e1
                  have g2 : w5.cell? ⟨w2.heap.size, 2, none⟩ = some (.int .i64 x.c) := (b5.cell (p := ⟨w2.heap.size, 2, none⟩) hxl4).trans e2
                  have g3 : w5.cell? ⟨w2.heap.size, 3, none⟩ = some (.int .i64 x.d) := (b5.cell (p := ⟨w2.heap.size, 3, none⟩) hxl4).trans e3
                  have hsl5 : w2.heap.size < w5.heap.size := Nat.lt_of_lt_of_le hxl4 b5.size
                  clear b5 e0 e1 e2 e3 HL4 KX4
                  clear hNE hEG D0 D1 D2 D3
                  have hqi0 : (0 : Int) ≤ (q : Int) := by omega
                  have hqi1 : (q : Int) ≤ (xs.length : Int) := by omega
                  have hqi2 : (q : Int) ≤ (c : Int) := by omega
                  have hqc : q ≤ c := by omega
                  by_cases hce : c = q
                  · have hce2 : q = c := hce.symm
                    have hqn : q = xs.length := by omega
                    have hdn : xs.drop q = [] := List.drop_eq_nil_of_le (by omega)
                    have HDN := Lib.hid hdn
                    have HCE := Lib.hid hce
                    have HQN := Lib.hid hqn
                    have hif1 : ∀ (α : Type) (a b : α), (if c = q then a else b) = a := fun _ a b => if_pos hce
                    have hif2 : ∀ (α : Type) (a b : α), (if q = c then a else b) = a := fun _ a b => if_pos hce2
                    clear hdn hce hce2 hqn
                    have HR5 := Lib.hid (Rd.of_own HL5.out.own)
                    have hs5 := HL5.out.sz
                    have HKT := Lib.hid (show (cells4 (xs.take q)).length = q * 4 by rw [length_cells4, List.length_take, Nat.min_eq_left (by omega)])
                    have HDT := Lib.hid (show (cells4 (xs.drop q)).length = (xs.length - q) * 4 by rw [length_cells4, List.length_drop])
                    have HX4 := Lib.hid (show x.cells.length = 1 * 4 from rfl)
                    have HS0 := Lib.hid (Nat.le_refl w5.heap.size)
                    have OA : Hid (((w5.alloc (.cells #[] 58)).drew).ownsRow w5.heap.size 58 4 (.slice (some ⟨w5.heap.size, 0, none⟩) 0 0) 0 []) := Lib.hid (own_empty w5 _ _ _ (Nat.le_refl _))
                    have BBA : Hid (Below w5.heap.size w5 ((w5.alloc (.cells #[] 58)).drew)) := Lib.hid ((Below.refl _ _).alloc (Nat.le_refl _) _).drew
                    have RAA : Hid (Rd ((w5.alloc (.cells #[] 58)).drew) (some ⟨g, 0, none⟩) (cells4 (xs.take q))) := Lib.hid (rd_take4 (HR5.out.below BBA.out) q)
                    have OB : Hid ((((w5.alloc (.cells #[] 58)).alloc (.cells #[.int .i64 x.a, .int .i64 x.b, .int .i64 x.c, .int .i64 x.d] 58)).drew).ownsRow w5.heap.size 58 4 (.slice (some ⟨w5.heap.size, 0, none⟩) 0 0) 0 []) := Lib.hid ((own_empty w5 _ _ _ (Nat.le_refl _)).alloc _)
                    have BBB : Hid (Below w5.heap.size w5 (((w5.alloc (.cells #[] 58)).alloc (.cells #[.int .i64 x.a, .int .i64 x.b, .int .i64 x.c, .int .i64 x.d] 58)).drew)) := Lib.hid ((((Below.refl _ _).alloc (Nat.le_refl _) _).alloc (by simp) _).drew)
                    have RXB : Hid (Rd (((w5.alloc (.cells #[] 58)).alloc (.cells #[.int .i64 x.a, .int .i64 x.b, .int .i64 x.c, .int .i64 x.d] 58)).drew) (some ⟨w5.heap.size + 1, 0, none⟩) x.cells) := Lib.hid (rd_new #[.int .i64 x.a, .int .i64 x.b, .int .i64 x.c, .int .i64 x.d] 58 (by simp))
                    have RAB : Hid (Rd (((w5.alloc (.cells #[] 58)).alloc (.cells #[.int .i64 x.a, .int .i64 x.b, .int .i64 x.c, .int .i64 x.d] 58)).drew) (some ⟨g, 0, none⟩) (cells4 (xs.take q))) := Lib.hid (rd_take4 (HR5.out.below BBB.out) q)
                    have OC : Hid ((((w5.alloc (.cells #[.int .i64 x.a, .int .i64 x.b, .int .i64 x.c, .int .i64 x.d] 58)).alloc (.cells #[] 58)).drew).ownsRow w5.heap.size 58 4 (.slice (some ⟨(w5.heap.size + 1), 0, none⟩) 0 0) 0 []) := Lib.hid (own_empty' (by simp) (by simp))
                    have BBC : Hid (Below w5.heap.size w5 (((w5.alloc (.cells #[.int .i64 x.a, .int .i64 x.b, .int .i64 x.c, .int .i64 x.d] 58)).alloc (.cells #[] 58)).drew)) := Lib.hid ((((Below.refl _ _).alloc (Nat.le_refl _) _).alloc (by simp) _).drew)
                    have RXC : Hid (Rd (((w5.alloc (.cells #[.int .i64 x.a, .int .i64 x.b, .int .i64 x.c, .int .i64 x.d] 58)).alloc (.cells #[] 58)).drew) (some ⟨w5.heap.size, 0, none⟩) x.cells) := Lib.hid ((rd_new #[.int .i64 x.a, .int .i64 x.b, .int .i64 x.c, .int .i64 x.d] 58 rfl).alloc _)
                    have RAC : Hid (Rd (((w5.alloc (.cells #[.int .i64 x.a, .int .i64 x.b, .int .i64 x.c, .int .i64 x.d] 58)).alloc (.cells #[] 58)).drew) (some ⟨g, 0, none⟩) (cells4 (xs.take q))) := Lib.hid (rd_take4 (HR5.out.below BBC.out) q)
                    go_wp2_with fail
                    go_region_held3 (fun w' => w'.cell? ⟨w2.heap.size, 0, none⟩ = some (.int .i64 x.a) ∧ w'.cell? ⟨w2.heap.size, 1, none⟩ = some (.int .i64 x.b) ∧ w'.cell? ⟨w2.heap.size, 2, none⟩ = some (.int .i64 x.c) ∧ w'.cell? ⟨w2.heap.size, 3, none⟩ = some (.int .i64 x.d)) (first | go_keep | exact ⟨(B8.cell (p := ⟨w2.heap.size, 0, none⟩) hsl5).trans g0, (B8.cell (p := ⟨w2.heap.size, 1, none⟩) hsl5).trans g1, (B8.cell (p := ⟨w2.heap.size, 2, none⟩) hsl5).trans g2, (B8.cell (p := ⟨w2.heap.size, 3, none⟩) hsl5).trans g3⟩ | exact ⟨(B7.cell (p := ⟨w2.heap.size, 0, none⟩) hsl5).trans g0, (B7.cell (p := ⟨w2.heap.size, 1, none⟩) hsl5).trans g1, (B7.cell (p := ⟨w2.heap.size, 2, none⟩) hsl5).trans g2, (B7.cell (p := ⟨w2.heap.size, 3, none⟩) hsl5).trans g3⟩ | exact ⟨(B6.cell (p := ⟨w2.heap.size, 0, none⟩) hsl5).trans g0, (B6.cell (p := ⟨w2.heap.size, 1, none⟩) hsl5).trans g1, (B6.cell (p := ⟨w2.heap.size, 2, none⟩) hsl5).trans g2, (B6.cell (p := ⟨w2.heap.size, 3, none⟩) hsl5).trans g3⟩) (first | (refine step_appL rfl (.tmp 52) (.tmp 55) 25 rfl w5.heap.size 58 _ 4 32 Try.underlying25 info58 rfl (by omega) (.slice (some ⟨w5.heap.size, 0, none⟩) 0 0) 0 [] (by simp [Act.eval, Act.put]) (by with_reducible exact OA.out) (some ⟨g, 0, none⟩) q c (cells4 (xs.take q)) (by simp [Act.eval, Act.put]) HKT.out (RAA.out) (oneCell_cells4 _) (by unfold maxLen; omega) (by omega) (by first | exact HS0.out | exact B6.size | exact (B6.alloc B6.size _).size | exact B7.size | (simp <;> omega)) ?_; intro v6 w6 o6 g6w _; have B6 := BBA.out.grown g6w BBA.out.size (fun j hj => (OA.out.lt j hj).1)) | (refine step_appL rfl (.tmp 52) (.tmp 55) 25 rfl w5.heap.size 58 _ 4 32 Try.underlying25 info58 rfl (by omega) (.slice (some ⟨w5.heap.size, 0, none⟩) 0 0) 0 [] (by simp [Act.eval, Act.put]) (by with_reducible exact OB.out) (some ⟨g, 0, none⟩) q c (cells4 (xs.take q)) (by simp [Act.eval, Act.put]) HKT.out (RAB.out) (oneCell_cells4 _) (by unfold maxLen; omega) (by omega) (by first | exact HS0.out | exact B6.size | exact (B6.alloc B6.size _).size | exact B7.size | (simp <;> omega)) ?_; intro v6 w6 o6 g6w _; have B6 := BBB.out.grown g6w BBB.out.size (fun j hj => (OB.out.lt j hj).1); have RX6 := rd_grown g6w RXB.out (by simp <;> omega) (by simp [Value.ownBlock])) | (refine step_appL rfl (.tmp 52) (.tmp 55) 25 rfl w5.heap.size 58 _ 4 32 Try.underlying25 info58 rfl (by omega) (.slice (some ⟨w5.heap.size + 1, 0, none⟩) 0 0) 0 [] (by simp [Act.eval, Act.put]) (by with_reducible exact OC.out) (some ⟨g, 0, none⟩) q c (cells4 (xs.take q)) (by simp [Act.eval, Act.put]) HKT.out (RAC.out) (oneCell_cells4 _) (by unfold maxLen; omega) (by omega) (by first | exact HS0.out | exact B6.size | exact (B6.alloc B6.size _).size | exact B7.size | (simp <;> omega)) ?_; intro v6 w6 o6 g6w _; have B6 := BBC.out.grown g6w BBC.out.size (fun j hj => (OC.out.lt j hj).1); have RX6 := rd_grown g6w RXC.out (by simp <;> omega) (by simp [Value.ownBlock])) | (refine step_appL rfl (.tmp 56) (.tmp 58) 25 rfl w5.heap.size 58 _ 4 32 Try.underlying25 info58 rfl (by omega) v6 _ _ (by simp [Act.eval, Act.put]) (by with_reducible exact o6.alloc _) (some ⟨w6.heap.size, 0, none⟩) 1 1 x.cells (by simp [Act.eval, Act.put]) HX4.out (rd_new #[.int .i64 x.a, .int .i64 x.b, .int .i64 x.c, .int .i64 x.d] 58 rfl) (oneCell_4 x) (by unfold maxLen; omega) (by omega) (by first | exact HS0.out | exact B6.size | exact (B6.alloc B6.size _).size | exact B7.size | (simp <;> omega)) ?_; intro v7 w7 o7 g7w _; have B7 : Below w5.heap.size w5 w7 := (B6.alloc B6.size _).grown g7w (B6.alloc B6.size _).size (fun j hj => (o6.lt j hj).1)) | (refine step_appL rfl (.tmp 56) (.tmp 58) 25 rfl w5.heap.size 58 _ 4 32 Try.underlying25 info58 rfl (by omega) v6 _ _ (by simp [Act.eval, Act.put]) (by with_reducible exact o6) (some ⟨(w5.heap.size + 1), 0, none⟩) 1 1 x.cells (by simp [Act.eval, Act.put]) HX4.out (RX6) (oneCell_4 x) (by unfold maxLen; omega) (by omega) (by first | exact HS0.out | exact B6.size | exact (B6.alloc B6.size _).size | exact B7.size | (simp <;> omega)) ?_; intro v7 w7 o7 g7w _; have B7 : Below w5.heap.size w5 w7 := B6.grown g7w B6.size (fun j hj => (o6.lt j hj).1)) | (refine step_appL rfl (.tmp 56) (.tmp 58) 25 rfl w5.heap.size 58 _ 4 32 Try.underlying25 info58 rfl (by omega) v6 _ _ (by simp [Act.eval, Act.put]) (by with_reducible exact o6) (some ⟨w5.heap.size, 0, none⟩) 1 1 x.cells (by simp [Act.eval, Act.put]) HX4.out (RX6) (oneCell_4 x) (by unfold maxLen; omega) (by omega) (by first | exact HS0.out | exact B6.size | exact (B6.alloc B6.size _).size | exact B7.size | (simp <;> omega)) ?_; intro v7 w7 o7 g7w _; have B7 : Below w5.heap.size w5 w7 := B6.grown g7w B6.size (fun j hj => (o6.lt j hj).1)) | (refine step_appL rfl (.tmp 59) (.tmp 62) 25 rfl w5.heap.size 58 _ 4 32 Try.underlying25 info58 rfl (by omega) v7 _ _ (by simp [Act.eval, Act.put]) (by with_reducible exact o7) (some ⟨g, 0, none⟩) (xs.length - q) (c - q) (cells4 (xs.drop q)) (by simp [Act.eval, Act.put, hif1, hif2]) HDT.out (.inl (by rw [HDN.out]; rfl)) (oneCell_cells4 _) (by unfold maxLen; omega) (by omega) (by first | exact HS0.out | exact B6.size | exact (B6.alloc B6.size _).size | exact B7.size | (simp <;> omega)) ?_; intro v8 w8 o8 g8w _; have B8 : Below w5.heap.size w5 w8 := B7.grown g8w B7.size (fun j hj => (o7.lt j hj).1)))
                    all_goals go_goals
                    all_goals (
                      obtain ⟨ys, hys⟩ : ∃ ys, ys = xs.take q ++ x :: xs.drop q := ⟨_, rfl⟩
                      have EC : [] ++ cells4 (xs.take q) ++ x.cells ++ cells4 (xs.drop q) = cells4 ys := by rw [hys, cells4_append, cells4_cons, List.nil_append, List.append_assoc]
                      have EL : ys.length = xs.length + 1 := by rw [hys, List.length_append, List.length_cons, List.length_take, List.length_drop]; omega
                      have EN : 0 + q + 1 + (xs.length - q) = ys.length := by rw [EL]; omega
                      rw [EC, EN] at o8
                      have HLN := Lib.hid (HL5.out.new o8 B8)
                      have hsy : ∀ y ∈ ys, sm4 y := fun y hy => by
                        rw [hys] at hy
                        rcases List.mem_append.1 hy with h | h
                        · exact HSM.out y (List.mem_of_mem_take h)
                        · rcases List.mem_cons.1 h with rfl | h
                          · exact HXS.out
                          · exact HSM.out y (List.mem_of_mem_drop h)
                      obtain ⟨g8, c8, rfl⟩ := own_formS o8 (by omega)
                      have HSY := Lib.hid hsy
                      clear EC EN hys hsy o8 o7 o6 g8w g7w g6w OA OB OC BBA BBB BBC RAA RAB RAC
                      go_wp2_with fail
                      go_roundw
                      case rel => exact ⟨j - 1, ys, k9, by go_num, by omega, by omega, by omega, HSY.out, ⟨_, _, rfl⟩, HLN.out⟩
                      case measure => (simp [intOf]; omega))
                  · have hce2 : ¬ q = c := fun h => hce h.symm
                    have HR5 := Lib.hid (Rd.of_own HL5.out.own)
                    have hs5 := HL5.out.sz
                    have HKT := Lib.hid (show (cells4 (xs.take q)).length = q * 4 by rw [length_cells4, List.length_take, Nat.min_eq_left (by omega)])
                    have HDT := Lib.hid (show (cells4 (xs.drop q)).length = (xs.length - q) * 4 by rw [length_cells4, List.length_drop])
                    have HX4 := Lib.hid (show x.cells.length = 1 * 4 from rfl)
                    have HS0 := Lib.hid (Nat.le_refl w5.heap.size)
                    have OA : Hid (((w5.alloc (.cells #[] 58)).drew).ownsRow w5.heap.size 58 4 (.slice (some ⟨w5.heap.size, 0, none⟩) 0 0) 0 []) := Lib.hid (own_empty w5 _ _ _ (Nat.le_refl _))
                    have BBA : Hid (Below w5.heap.size w5 ((w5.alloc (.cells #[] 58)).drew)) := Lib.hid ((Below.refl _ _).alloc (Nat.le_refl _) _).drew
                    have RAA : Hid (Rd ((w5.alloc (.cells #[] 58)).drew) (some ⟨g, 0, none⟩) (cells4 (xs.take q))) := Lib.hid (rd_take4 (HR5.out.below BBA.out) q)
                    have OB : Hid ((((w5.alloc (.cells #[] 58)).alloc (.cells #[.int .i64 x.a, .int .i64 x.b, .int .i64 x.c, .int .i64 x.d] 58)).drew).ownsRow w5.heap.size 58 4 (.slice (some ⟨w5.heap.size, 0, none⟩) 0 0) 0 []) := Lib.hid ((own_empty w5 _ _ _ (Nat.le_refl _)).alloc _)
                    have BBB : Hid (Below w5.heap.size w5 (((w5.alloc (.cells #[] 58)).alloc (.cells #[.int .i64 x.a, .int .i64 x.b, .int .i64 x.c, .int .i64 x.d] 58)).drew)) := Lib.hid ((((Below.refl _ _).alloc (Nat.le_refl _) _).alloc (by simp) _).drew)
                    have RXB : Hid (Rd (((w5.alloc (.cells #[] 58)).alloc (.cells #[.int .i64 x.a, .int .i64 x.b, .int .i64 x.c, .int .i64 x.d] 58)).drew) (some ⟨w5.heap.size + 1, 0, none⟩) x.cells) := Lib.hid (rd_new #[.int .i64 x.a, .int .i64 x.b, .int .i64 x.c, .int .i64 x.d] 58 (by simp))
                    have RAB : Hid (Rd (((w5.alloc (.cells #[] 58)).alloc (.cells #[.int .i64 x.a, .int .i64 x.b, .int .i64 x.c, .int .i64 x.d] 58)).drew) (some ⟨g, 0, none⟩) (cells4 (xs.take q))) := Lib.hid (rd_take4 (HR5.out.below BBB.out) q)
                    have OC : Hid ((((w5.alloc (.cells #[.int .i64 x.a, .int .i64 x.b, .int .i64 x.c, .int .i64 x.d] 58)).alloc (.cells #[] 58)).drew).ownsRow w5.heap.size 58 4 (.slice (some ⟨(w5.heap.size + 1), 0, none⟩) 0 0) 0 []) := Lib.hid (own_empty' (by simp) (by simp))
                    have BBC : Hid (Below w5.heap.size w5 (((w5.alloc (.cells #[.int .i64 x.a, .int .i64 x.b, .int .i64 x.c, .int .i64 x.d] 58)).alloc (.cells #[] 58)).drew)) := Lib.hid ((((Below.refl _ _).alloc (Nat.le_refl _) _).alloc (by simp) _).drew)
                    have RXC : Hid (Rd (((w5.alloc (.cells #[.int .i64 x.a, .int .i64 x.b, .int .i64 x.c, .int .i64 x.d] 58)).alloc (.cells #[] 58)).drew) (some ⟨w5.heap.size, 0, none⟩) x.cells) := Lib.hid ((rd_new #[.int .i64 x.a, .int .i64 x.b, .int .i64 x.c, .int .i64 x.d] 58 rfl).alloc _)
                    have RAC : Hid (Rd (((w5.alloc (.cells #[.int .i64 x.a, .int .i64 x.b, .int .i64 x.c, .int .i64 x.d] 58)).alloc (.cells #[] 58)).drew) (some ⟨g, 0, none⟩) (cells4 (xs.take q))) := Lib.hid (rd_take4 (HR5.out.below BBC.out) q)
                    go_wp2_with fail
                    go_region_held3 (fun w' => w'.cell? ⟨w2.heap.size, 0, none⟩ = some (.int .i64 x.a) ∧ w'.cell? ⟨w2.heap.size, 1, none⟩ = some (.int .i64 x.b) ∧ w'.cell? ⟨w2.heap.size, 2, none⟩ = some (.int .i64 x.c) ∧ w'.cell? ⟨w2.heap.size, 3, none⟩ = some (.int .i64 x.d)) (first | go_keep | exact ⟨(B8.cell (p := ⟨w2.heap.size, 0, none⟩) hsl5).trans g0, (B8.cell (p := ⟨w2.heap.size, 1, none⟩) hsl5).trans g1, (B8.cell (p := ⟨w2.heap.size, 2, none⟩) hsl5).trans g2, (B8.cell (p := ⟨w2.heap.size, 3, none⟩) hsl5).trans g3⟩ | exact ⟨(B7.cell (p := ⟨w2.heap.size, 0, none⟩) hsl5).trans g0, (B7.cell (p := ⟨w2.heap.size, 1, none⟩) hsl5).trans g1, (B7.cell (p := ⟨w2.heap.size, 2, none⟩) hsl5).trans g2, (B7.cell (p := ⟨w2.heap.size, 3, none⟩) hsl5).trans g3⟩ | exact ⟨(B6.cell (p := ⟨w2.heap.size, 0, none⟩) hsl5).trans g0, (B6.cell (p := ⟨w2.heap.size, 1, none⟩) hsl5).trans g1, (B6.cell (p := ⟨w2.heap.size, 2, none⟩) hsl5).trans g2, (B6.cell (p := ⟨w2.heap.size, 3, none⟩) hsl5).trans g3⟩) (first | (refine step_appL rfl (.tmp 52) (.tmp 55) 25 rfl w5.heap.size 58 _ 4 32 Try.underlying25 info58 rfl (by omega) (.slice (some ⟨w5.heap.size, 0, none⟩) 0 0) 0 [] (by simp [Act.eval, Act.put]) (by with_reducible exact OA.out) (some ⟨g, 0, none⟩) q c (cells4 (xs.take q)) (by simp [Act.eval, Act.put]) HKT.out (RAA.out) (oneCell_cells4 _) (by unfold maxLen; omega) (by omega) (by first | exact HS0.out | exact B6.size | exact (B6.alloc B6.size _).size | exact B7.size | (simp <;> omega)) ?_; intro v6 w6 o6 g6w _; have B6 := BBA.out.grown g6w BBA.out.size (fun j hj => (OA.out.lt j hj).1)) | (refine step_appL rfl (.tmp 52) (.tmp 55) 25 rfl w5.heap.size 58 _ 4 32 Try.underlying25 info58 rfl (by omega) (.slice (some ⟨w5.heap.size, 0, none⟩) 0 0) 0 [] (by simp [Act.eval, Act.put]) (by with_reducible exact OB.out) (some ⟨g, 0, none⟩) q c (cells4 (xs.take q)) (by simp [Act.eval, Act.put]) HKT.out (RAB.out) (oneCell_cells4 _) (by unfold maxLen; omega) (by omega) (by first | exact HS0.out | exact B6.size | exact (B6.alloc B6.size _).size | exact B7.size | (simp <;> omega)) ?_; intro v6 w6 o6 g6w _; have B6 := BBB.out.grown g6w BBB.out.size (fun j hj => (OB.out.lt j hj).1); have RX6 := rd_grown g6w RXB.out (by simp <;> omega) (by simp [Value.ownBlock])) | (refine step_appL rfl (.tmp 52) (.tmp 55) 25 rfl w5.heap.size 58 _ 4 32 Try.underlying25 info58 rfl (by omega) (.slice (some ⟨w5.heap.size + 1, 0, none⟩) 0 0) 0 [] (by simp [Act.eval, Act.put]) (by with_reducible exact OC.out) (some ⟨g, 0, none⟩) q c (cells4 (xs.take q)) (by simp [Act.eval, Act.put]) HKT.out (RAC.out) (oneCell_cells4 _) (by unfold maxLen; omega) (by omega) (by first | exact HS0.out | exact B6.size | exact (B6.alloc B6.size _).size | exact B7.size | (simp <;> omega)) ?_; intro v6 w6 o6 g6w _; have B6 := BBC.out.grown g6w BBC.out.size (fun j hj => (OC.out.lt j hj).1); have RX6 := rd_grown g6w RXC.out (by simp <;> omega) (by simp [Value.ownBlock])) | (refine step_appL rfl (.tmp 56) (.tmp 58) 25 rfl w5.heap.size 58 _ 4 32 Try.underlying25 info58 rfl (by omega) v6 _ _ (by simp [Act.eval, Act.put]) (by with_reducible exact o6.alloc _) (some ⟨w6.heap.size, 0, none⟩) 1 1 x.cells (by simp [Act.eval, Act.put]) HX4.out (rd_new #[.int .i64 x.a, .int .i64 x.b, .int .i64 x.c, .int .i64 x.d] 58 rfl) (oneCell_4 x) (by unfold maxLen; omega) (by omega) (by first | exact HS0.out | exact B6.size | exact (B6.alloc B6.size _).size | exact B7.size | (simp <;> omega)) ?_; intro v7 w7 o7 g7w _; have B7 : Below w5.heap.size w5 w7 := (B6.alloc B6.size _).grown g7w (B6.alloc B6.size _).size (fun j hj => (o6.lt j hj).1)) | (refine step_appL rfl (.tmp 56) (.tmp 58) 25 rfl w5.heap.size 58 _ 4 32 Try.underlying25 info58 rfl (by omega) v6 _ _ (by simp [Act.eval, Act.put]) (by with_reducible exact o6) (some ⟨(w5.heap.size + 1), 0, none⟩) 1 1 x.cells (by simp [Act.eval, Act.put]) HX4.out (RX6) (oneCell_4 x) (by unfold maxLen; omega) (by omega) (by first | exact HS0.out | exact B6.size | exact (B6.alloc B6.size _).size | exact B7.size | (simp <;> omega)) ?_; intro v7 w7 o7 g7w _; have B7 : Below w5.heap.size w5 w7 := B6.grown g7w B6.size (fun j hj => (o6.lt j hj).1)) | (refine step_appL rfl (.tmp 56) (.tmp 58) 25 rfl w5.heap.size 58 _ 4 32 Try.underlying25 info58 rfl (by omega) v6 _ _ (by simp [Act.eval, Act.put]) (by with_reducible exact o6) (some ⟨w5.heap.size, 0, none⟩) 1 1 x.cells (by simp [Act.eval, Act.put]) HX4.out (RX6) (oneCell_4 x) (by unfold maxLen; omega) (by omega) (by first | exact HS0.out | exact B6.size | exact (B6.alloc B6.size _).size | exact B7.size | (simp <;> omega)) ?_; intro v7 w7 o7 g7w _; have B7 : Below w5.heap.size w5 w7 := B6.grown g7w B6.size (fun j hj => (o6.lt j hj).1)) | (refine step_appL rfl (.tmp 59) (.tmp 62) 25 rfl w5.heap.size 58 _ 4 32 Try.underlying25 info58 rfl (by omega) v7 _ _ (by simp [Act.eval, Act.put]) (by with_reducible exact o7) (some ⟨g, q * 4, none⟩) (xs.length - q) (c - q) (cells4 (xs.drop q)) (by simp [Act.eval, Act.put, hce, hce2]) HDT.out (by have h := rd_drop4 (HR5.out.below B7) q; rw [Nat.zero_add] at h; exact h) (oneCell_cells4 _) (by unfold maxLen; omega) (by omega) (by first | exact HS0.out | exact B6.size | exact (B6.alloc B6.size _).size | exact B7.size | (simp <;> omega)) ?_; intro v8 w8 o8 g8w _; have B8 : Below w5.heap.size w5 w8 := B7.grown g8w B7.size (fun j hj => (o7.lt j hj).1)))
                    all_goals go_goals
                    all_goals (
                      obtain ⟨ys, hys⟩ : ∃ ys, ys = xs.take q ++ x :: xs.drop q := ⟨_, rfl⟩
                      have EC : [] ++ cells4 (xs.take q) ++ x.cells ++ cells4 (xs.drop q) = cells4 ys := by rw [hys, cells4_append, cells4_cons, List.nil_append, List.append_assoc]
                      have EL : ys.length = xs.length + 1 := by rw [hys, List.length_append, List.length_cons, List.length_take, List.length_drop]; omega
                      have EN : 0 + q + 1 + (xs.length - q) = ys.length := by rw [EL]; omega
                      rw [EC, EN] at o8
                      have HLN := Lib.hid (HL5.out.new o8 B8)
                      have hsy : ∀ y ∈ ys, sm4 y := fun y hy => by
                        rw [hys] at hy
                        rcases List.mem_append.1 hy with h | h
                        · exact HSM.out y (List.mem_of_mem_take h)
                        · rcases List.mem_cons.1 h with rfl | h
                          · exact HXS.out
                          · exact HSM.out y (List.mem_of_mem_drop h)
                      obtain ⟨g8, c8, rfl⟩ := own_formS o8 (by omega)
                      have HSY := Lib.hid hsy
                      clear EC EN hys hsy o8 o7 o6 g8w g7w g6w OA OB OC BBA BBB BBC RAA RAB RAC
                      go_wp2_with fail
                      go_roundw
                      case rel => exact ⟨j - 1, ys, k9, by go_num, by omega, by omega, by omega, HSY.out, ⟨_, _, rfl⟩, HLN.out⟩
                      case measure => (simp [intOf]; omega))
    · obtain rfl : j = 0 := by omega
      rw [show ((0 : Nat) : Int) = 0 from rfl]
      go_wp2_with fail
      refine (PK.out kk 32 _ HL.out.cur (by omega) (by decide) (by decide)).mono ?_
      rintro e w2 ⟨vw2, k2, rfl, ⟨rw2, rfl, aw2, bw2⟩, hk2, hc, hg⟩
      have HL2 := Lib.hid (HL.out.call hp hc hg)
      clear hc hg HL
      by_cases h0 : rw2 = 0
      · subst h0
        go_wp2_with fail
        refine (ML.out k2 _ HL2.out.cur (by omega)).mono ?_
        rintro e w4 ⟨v4, k4, rfl, ⟨x, rfl, hxs⟩, hk4, hc, hg⟩
        have HL4 := Lib.hid (HL2.out.call hp hc hg)
        have HXS := Lib.hid hxs
        clear hc hg HL2 hxs
        have HO := Lib.hid ((HL4.out.below ((Below.refl _ _).alloc (Nat.le_refl _) (.cells #[.int .i64 x.a, .int .i64 x.b, .int .i64 x.c, .int .i64 x.d] 58))).own)
        have HX : Hid (Rd (w4.alloc (.cells #[.int .i64 x.a, .int .i64 x.b, .int .i64 x.c, .int .i64 x.d] 58)) (some ⟨w4.heap.size, 0, none⟩) x.cells) := Lib.hid (rd_new #[.int .i64 x.a, .int .i64 x.b, .int .i64 x.c, .int .i64 x.d] 58 rfl)
        have hbs : w.heap.size ≤ (w4.alloc (.cells #[.int .i64 x.a, .int .i64 x.b, .int .i64 x.c, .int .i64 x.d] 58)).heap.size := by have := HL4.out.sz; simp; omega
        go_wp2_with (at_builtin; go_must (refine wpList_app _ rfl (.tmp 68) (.tmp 71) 25 rfl w.heap.size 58 _ 4 32 Try.underlying25 info58 rfl (by omega) _ _ _ rfl HO.out _ 1 1 x.cells rfl rfl HX.out (oneCell_4 x) (by unfold maxLen; omega) (by omega) hbs ?_); intro v6 w6 o6 g6 d6; refine Hid.out ?_)
        have HLf := Lib.hid (HL4.out.push (x := x) hp ((Below.refl _ _).alloc (Nat.le_refl _) _) o6 g6)
        clear o6 g6 d6 HO HX hbs
        refine Lib.hid ?_
        go_wp2
        go_ret
        exact ⟨_, _, k4, rfl, HLf.out.own, by simp; omega, fun y hy => by rcases List.mem_append.1 hy with h | h; exact HSM.out y h; simp at h; subst h; exact HXS.out, by omega, HLf.out.cur, HLf.out.gr⟩
      · have d0 : (rw2 == 0) = false := by simp [h0]
        by_cases h1 : rw2 = 1
        · subst h1
          go_wp2_with fail
          go_loopw [3] (fun v wr => ∃ (ys : List R4) (kq : Nat), ys.length ≤ 21 ∧ kq + 4 * (22 - ys.length) ≤ k2 + 88 ∧ (∀ y ∈ ys, sm4 y) ∧ LRel4 w 58 p u ys v kq wr) (fun v _ => 30 - lenV v)
          case atStart => exact ⟨xs, k2, by omega, by omega, HSM.out, HL2.out⟩
          case round =>
            obtain ⟨ys, kq, hy, hkq, hsy, hL⟩ := hrel
            obtain ⟨A2, c2, rfl⟩ := own_form hL.own
            have HL := Lib.hid hL
            have HSY := Lib.hid hsy
            clear hL HL2 hsy
            go_wp2_with fail
            refine (PK.out kq 2 _ HL.out.cur (by omega) (by decide) (by decide)).mono ?_
            rintro e w5 ⟨vw5, k5, rfl, ⟨rw5, rfl, aw5, bw5⟩, hk5, hc, hg⟩
            have HL5 := Lib.hid (HL.out.call hp hc hg)
            clear hc hg HL
            have hw1 : IntKind.i64.wrap (20 + rw5) = 20 + rw5 := IntWalk.i64_in _ (by omega)
            have hw2 : IntKind.i64.wrap (100 + (ys.length : Int)) = 100 + (ys.length : Int) := IntWalk.i64_in _ (by omega)
            have hw3 : IntKind.i64.wrap ((ys.length : Int) % 3) = (ys.length : Int) % 3 := IntWalk.i64_in _ (by omega)
            by_cases hq : (ys.length : Int) < 20 + rw5
            · have hy20 : ys.length ≤ 20 := by omega
              have HO := Lib.hid ((HL5.out.below ((Below.refl _ _).alloc (Nat.le_refl _) (.cells #[.int .i64 (100 + (ys.length : Int)), .int .i64 ((ys.length : Int) % 3), .int .i64 3, .int .i64 200] 58))).own)
              have HX : Hid (Rd (w5.alloc (.cells #[.int .i64 (100 + (ys.length : Int)), .int .i64 ((ys.length : Int) % 3), .int .i64 3, .int .i64 200] 58)) (some ⟨w5.heap.size, 0, none⟩) (⟨100 + (ys.length : Int), (ys.length : Int) % 3, 3, 200⟩ : R4).cells) := Lib.hid (rd_new #[.int .i64 (100 + (ys.length : Int)), .int .i64 ((ys.length : Int) % 3), .int .i64 3, .int .i64 200] 58 rfl)
              have hbs : w.heap.size ≤ (w5.alloc (.cells #[.int .i64 (100 + (ys.length : Int)), .int .i64 ((ys.length : Int) % 3), .int .i64 3, .int .i64 200] 58)).heap.size := by have := HL5.out.sz; simp; omega
              go_wp2_with (at_builtin; go_must (refine wpList_app _ rfl (.tmp 81) (.tmp 89) 25 rfl w.heap.size 58 _ 4 32 Try.underlying25 info58 rfl (by omega) _ _ _ rfl HO.out _ 1 1 (⟨100 + (ys.length : Int), (ys.length : Int) % 3, 3, 200⟩ : R4).cells rfl rfl HX.out (oneCell_4 (⟨100 + (ys.length : Int), (ys.length : Int) % 3, 3, 200⟩ : R4)) (by unfold maxLen; omega) (by omega) hbs ?_); intro v6 w6 o6 g6 d6; refine Hid.out ?_)
              have HLf := Lib.hid (HL5.out.push (x := (⟨100 + (ys.length : Int), (ys.length : Int) % 3, 3, 200⟩ : R4)) hp ((Below.refl _ _).alloc (Nat.le_refl _) _) o6 g6)
              clear o6 g6 d6 HO HX hbs
              refine Lib.hid ?_
              obtain ⟨A6, c6, rfl⟩ := own_form HLf.out.own
              have hsr : sm4 (⟨100 + (ys.length : Int), (ys.length : Int) % 3, 3, 200⟩ : R4) := by unfold sm4; simp only; omega
              have HSR := Lib.hid hsr
              clear hsr
              go_wp2
              go_roundw
              case rel => exact ⟨_, k5, by simp; omega, by simp; omega, fun y hy => by rcases List.mem_append.1 hy with h | h; exact HSY.out y h; rw [List.mem_singleton] at h; rw [h]; exact HSR.out, HLf.out⟩
              case measure => simp [lenV]; omega
            · have hq2 : 20 + rw5 ≤ (ys.length : Int) := by omega
              go_wp2
              go_ret
              exact ⟨_, _, k5, rfl, HL5.out.own, by omega, HSY.out, by omega, HL5.out.cur, HL5.out.gr⟩
        · have d1 : (rw2 == 1) = false := by simp [h1]
          go_wp2
          go_ret
          exact ⟨_, _, k2, rfl, HL2.out.own, by omega, HSM.out, by omega, HL2.out.cur, HL2.out.gr⟩
end Go.Proofs.Ytobloedpmjkgpaa
