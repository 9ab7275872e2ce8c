/- The law FnExactApprovalText returns true for every input: the texts of the reference and of the program are the same; no condition but the card's own: the listed tables of the library hold what their text lays. -/
import Derived.Test.YtfejjdplclngnaaDoorTAppI
import Derived.Test.YtfejjdplclngnaaDoorOpen
import Derived.Test.YtfejjdplclngnaaDoorAppO
import Derived.Test.YtfejjdplclngnaaDoorAppE
import Derived.Deep.RegionHeld3
import Derived.Test.YtfejjdplclngnaaDoorDLaid
namespace Go.Proofs.YtfejjdplclngnaaDoor.ltApproval
set_option linter.unusedSimpArgs false
open Go.ChangeShapes Go.WideShapes Go.ChangeAt Go.RowKit Go.Deep
set_option linter.unusedVariables false

theorem openVA {H : Type} {enc : TypeId × Value → H} {P : Program} {w : World} {base base' : Nat} {spare : Nat → Bool} {held : Bool} {t ti ts tt : TypeId} {f0 f1 f2 f3 f4 f5 : Field} {v : Value} {d : DataW H} {p : List MemPlace} {r : Reach} (he : P.underlying t = some (.struct #[f0, f1, f2, f3, f4, f5]))
    (hone : oneCellFields P #[f0, f1, f2, f3, f4, f5] = true) (hC : P.cellsOf t = 6) (hti : P.underlying ti = some (.int .i64)) (hts : P.underlying ts = some (.slice ti)) (htt : P.underlying tt = some .string) (hCi : P.cellsOf ti = 1)
    (h0 : f0.type = ti) (h1 : f1.type = tt) (h2 : f2.type = ti) (h3 : f3.type = ts) (h4 : f4.type = ts) (h5 : f5.type = ti) (hok : Value.okWide P w r base' t v) (h : DataW.Trod enc P w base spare held t v d p) :
    ∃ (x : AR) (B : Option Addr) (c : Nat) (D : Option Addr) (d : Nat), v = .agg #[.int .i64 x.id, .string x.client, .int .i64 x.sent, .slice B x.items.length c, .slice D x.kept.length d, .int .i64 x.back] ∧ x.client.size ≤ maxLen ∧ (x.items.length ≤ c ∧ c ≤ maxLen) ∧ (x.kept.length ≤ d ∧ d ≤ maxLen) ∧ Rd w B (cells1 x.items) ∧ Rd w D (cells1 x.kept) := by
  obtain ⟨cs, rfl, hs⟩ := okWide_struct he hok
  obtain ⟨fuel, hf⟩ := h
  rw [hC] at hs
  obtain ⟨ys, n, -, -, -, hyl, hj⟩ := DataW.trod_struct he hf
  have key : ∀ (j : Nat) (f : Field), #[f0, f1, f2, f3, f4, f5][j]? = some f → j < 6 → ∃ u y, cs[j]? = some u ∧ DataW.trod enc P w base spare held n f.type [u] = some y := by
    intro j f hjf hj5
    obtain ⟨ho, hk⟩ := hone_of hone j f hjf
    have h1 := hj j f hjf
    have hyl' : ys.length = 6 := by simpa using hyl
    rw [ho, hk] at h1
    have e : ((Value.agg cs).cells.toList.drop j).take 1 = [cs[j]'(by omega)] := by
      simp only [Value.cells]
      rw [List.drop_eq_getElem_cons (by simp; omega)]
      simp
    rw [e, List.getElem?_eq_getElem (by omega)] at h1
    exact ⟨_, _, Array.getElem?_eq_getElem (by omega), h1⟩
  obtain ⟨u0, y0, k0, t0⟩ := key 0 f0 rfl (by omega)
  obtain ⟨u1, y1, k1, t1⟩ := key 1 f1 rfl (by omega)
  obtain ⟨u2, y2, k2, t2⟩ := key 2 f2 rfl (by omega)
  obtain ⟨u3, y3, k3, t3⟩ := key 3 f3 rfl (by omega)
  obtain ⟨u4, y4, k4, t4⟩ := key 4 f4 rfl (by omega)
  obtain ⟨u5, y5, k5, t5⟩ := key 5 f5 rfl (by omega)
  rw [h0] at t0; rw [h1] at t1; rw [h2] at t2; rw [h3] at t3; rw [h4] at t4; rw [h5] at t5
  obtain ⟨z0, e0, _, _⟩ := DataW.trod_int hti t0
  obtain ⟨s1, e1, _, hs1⟩ := DataW.trod_string htt t1
  obtain ⟨z2, e2, _, _⟩ := DataW.trod_int hti t2
  obtain ⟨zs3, B, c, rfl, hb1, hb2, hrB⟩ := openI hts hti hCi t3
  obtain ⟨zs4, D, d, rfl, hd1, hd2, hrD⟩ := openI hts hti hCi t4
  obtain ⟨z5, e5, _, _⟩ := DataW.trod_int hti t5
  simp at e0 e1 e2 e5
  subst e0; subst e1; subst e2; subst e5
  refine ⟨⟨z0, s1, z2, zs3, zs4, z5⟩, B, c, D, d, ?_, hs1, ⟨hb1, hb2⟩, ⟨hd1, hd2⟩, hrB, hrD⟩
  congr 1
  apply Array.ext_getElem?
  intro i
  by_cases hi : i < 6
  · have : i = 0 ∨ i = 1 ∨ i = 2 ∨ i = 3 ∨ i = 4 ∨ i = 5 := by omega
    rcases this with rfl | rfl | rfl | rfl | rfl | rfl <;> first | exact k0 | exact k1 | exact k2 | exact k3 | exact k4 | exact k5
  · rw [Array.getElem?_eq_none (by omega), Array.getElem?_eq_none (by simp; omega)]

set_option maxHeartbeats 4000000 in
set_option maxRecDepth 20000 in
theorem walk (x : AR) (B : Option Addr) (c : Nat) (D : Option Addr) (d : Nat) (w : World) (hcs : x.client.size ≤ maxLen) (hb : x.items.length ≤ c ∧ c ≤ maxLen) (hd : x.kept.length ≤ d ∧ d ≤ maxLen) (hB : Rd w B (cells1 x.items)) (hD : Rd w D (cells1 x.kept)) (ht : ∀ w', Below w.heap.size w w' → Lib.TabIs Tryd.prog w' "internal/strconv.uint64pow10" .u64 Lib.pow10Tab) :
    Calls Tryd.prog 6 #[.agg #[.int .i64 x.id, .string x.client, .int .i64 x.sent, .slice B x.items.length c, .slice D x.kept.length d, .int .i64 x.back]] w (Ret (.bool true) w) := by
  have HT := Lib.hid ht
  have HB := Lib.hid hB
  have HD := Lib.hid hD
  have HCS := Lib.hid hcs
  have HB0 := Lib.hid ((Below.refl w.heap.size w).alloc (Nat.le_refl _) (.cells #[.int .i64 x.id, .string x.client, .int .i64 x.sent, .slice B x.items.length c, .slice D x.kept.length d, .int .i64 x.back] 43))
  have HY := Lib.hid (fun W (h : Below (w.heap.size + 1) (w.alloc (.cells #[.int .i64 x.id, .string x.client, .int .i64 x.sent, .slice B x.items.length c, .slice D x.kept.length d, .int .i64 x.back] 43)) W) => (Blk.new w [.int .i64 x.id, .string x.client, .int .i64 x.sent, .slice B x.items.length c, .slice D x.kept.length d, .int .i64 x.back] 43).below h (by omega))
  have HBX := Lib.hid (fun W (h : Below (w.heap.size + 1) (w.alloc (.cells #[.int .i64 x.id, .string x.client, .int .i64 x.sent, .slice B x.items.length c, .slice D x.kept.length d, .int .i64 x.back] 43)) W) => HB0.out.trans (h.mono (Nat.le_succ _)))
  have CS := Lib.hid (fun w => szApproval_any x B c D d 1048576 w hcs (by omega) (by omega) (by omega) (by omega))
  clear ht hB hD hcs
  rcases szA1_cases (l := 1048576) (x := x) (by omega) with hz | hz
  · have HZ := Lib.hid hz
    clear hz hb hd
    go_enter Tryd.func6, Tryd.ntmps6
    go_wp2_with fail
    refine (CS.out _).mono ?_
    rintro e w1 ⟨rfl, b1⟩
    have HB1 : Hid (Below (w.heap.size + 1) (w.alloc (.cells #[.int .i64 x.id, .string x.client, .int .i64 x.sent, .slice B x.items.length c, .slice D x.kept.length d, .int .i64 x.back] 43)) w1) := Lib.hid (Below.trans (Below.refl _ _) (b1.mono (by simp)))
    clear b1
    rw [HZ.out]
    go_wp2
    go_ret
    exact ⟨rfl, HBX.out _ HB1.out⟩
  · obtain ⟨hze, hzl⟩ := szA1_pos (by omega) hz
    have hsm : smA x := ⟨by omega, by omega, by omega⟩
    have HSM := Lib.hid hsm
    obtain ⟨L, hL⟩ : ∃ L, L = szA1 1048576 x := ⟨_, rfl⟩
    have HL := Lib.hid hL
    have hl0 : ¬ L < 0 := by omega
    have hi2 : x.items.length ≤ 1048576 := by omega
    have hk2 : x.kept.length ≤ 1048576 := by omega
    have CT := Lib.hid (fun w h h2 => toApproval_any x B c D d w h h2 hi2 hk2)
    clear hz hze hzl hsm hL hb hd
    go_enter Tryd.func6, Tryd.ntmps6
    go_wp2_with fail
    refine (CS.out _).mono ?_
    rintro e w1 ⟨rfl, b1⟩
    have HB1 : Hid (Below (w.heap.size + 1) (w.alloc (.cells #[.int .i64 x.id, .string x.client, .int .i64 x.sent, .slice B x.items.length c, .slice D x.kept.length d, .int .i64 x.back] 43)) w1) := Lib.hid (Below.trans (Below.refl _ _) (b1.mono (by simp)))
    clear b1
    rw [← HL.out]
    have y0 := (HY.out _ HB1.out).cell 0 _ rfl
    have y1 := (HY.out _ HB1.out).cell 1 _ rfl
    have y2 := (HY.out _ HB1.out).cell 2 _ rfl
    have y3 := (HY.out _ HB1.out).cell 3 _ rfl
    have y4 := (HY.out _ HB1.out).cell 4 _ rfl
    have y5 := (HY.out _ HB1.out).cell 5 _ rfl
    have hy := (HY.out _ HB1.out).lt
    go_wp2_with fail
    refine (CT.out _ (HB.out.below (HBX.out _ HB1.out)) (HD.out.below (HBX.out _ HB1.out))).mono ?_
    rintro e w2 ⟨u1, v1, rfl, ou1, ov1, -, b2⟩
    obtain ⟨A1, c1, rfl⟩ := own_form ou1
    obtain ⟨D1, d1, rfl⟩ := own_form ov1
    have HB2 := Lib.hid (HB1.out.trans (b2.mono (by omega)))
    clear y0 y1 y2 y3 y4 y5 hy
    clear b2
    have y0 := (HY.out _ HB2.out).cell 0 _ rfl
    have y1 := (HY.out _ HB2.out).cell 1 _ rfl
    have y2 := (HY.out _ HB2.out).cell 2 _ rfl
    have y3 := (HY.out _ HB2.out).cell 3 _ rfl
    have y4 := (HY.out _ HB2.out).cell 4 _ rfl
    have y5 := (HY.out _ HB2.out).cell 5 _ rfl
    have hy := (HY.out _ HB2.out).lt
    have HU1 := Lib.hid (Rd.of_own ou1)
    have HV1 := Lib.hid (Rd.of_own ov1)
    clear ou1 ov1
    go_wp2_with fail
    refine (specApprovalText_any x A1 c1 D1 d1 _ HU1.out HV1.out HSM.out).mono ?_
    rintro e w3 ⟨rfl, b3⟩
    have HB3 := Lib.hid (HB2.out.trans (b3.mono (by omega)))
    clear y0 y1 y2 y3 y4 y5 hy
    clear b3
    have y0 := (HY.out _ HB3.out).cell 0 _ rfl
    have y1 := (HY.out _ HB3.out).cell 1 _ rfl
    have y2 := (HY.out _ HB3.out).cell 2 _ rfl
    have y3 := (HY.out _ HB3.out).cell 3 _ rfl
    have y4 := (HY.out _ HB3.out).cell 4 _ rfl
    have y5 := (HY.out _ HB3.out).cell 5 _ rfl
    have hy := (HY.out _ HB3.out).lt
    go_wp2_with fail
    refine (CT.out _ (HB.out.below (HBX.out _ HB3.out)) (HD.out.below (HBX.out _ HB3.out))).mono ?_
    rintro e w4 ⟨u2, v2, rfl, ou2, ov2, -, b4⟩
    obtain ⟨A2, c2, rfl⟩ := own_form ou2
    obtain ⟨D2, d2, rfl⟩ := own_form ov2
    have HB4 := Lib.hid (HB3.out.trans (b4.mono (by omega)))
    clear y0 y1 y2 y3 y4 y5 hy
    clear b4
    have y0 := (HY.out _ HB4.out).cell 0 _ rfl
    have y1 := (HY.out _ HB4.out).cell 1 _ rfl
    have y2 := (HY.out _ HB4.out).cell 2 _ rfl
    have y3 := (HY.out _ HB4.out).cell 3 _ rfl
    have y4 := (HY.out _ HB4.out).cell 4 _ rfl
    have y5 := (HY.out _ HB4.out).cell 5 _ rfl
    have hy := (HY.out _ HB4.out).lt
    obtain ⟨W5, hW5⟩ : ∃ W, W = w4.alloc (.cells #[.int .i64 x.id, .string x.client, .int .i64 x.sent, .slice A2 x.items.length c2, .slice D2 x.kept.length d2, .int .i64 x.back] 46) := ⟨_, rfl⟩
    have hz4 : w.heap.size + 1 ≤ w4.heap.size := by omega
    have B5 : Below w4.heap.size w4 W5 := by rw [hW5]; exact (Below.refl _ _).alloc (Nat.le_refl _) _
    have HY5 : Hid (Blk W5 w4.heap.size [.int .i64 x.id, .string x.client, .int .i64 x.sent, .slice A2 x.items.length c2, .slice D2 x.kept.length d2, .int .i64 x.back]) := Lib.hid (by rw [hW5]; exact Blk.new _ _ _)
    have HB5 := Lib.hid (HB4.out.trans (B5.mono hz4))
    have HU2 := Lib.hid (own_below ou2 B5)
    have HV2 := Lib.hid (own_below ov2 B5)
    have HW5 := Lib.hid hW5
    clear hW5 B5 ou2 ov2
    go_wp2_with fail
    rw [← HW5.out]
    refine (implApprovalText_any x A2 c2 D2 d2 _ (Rd.of_own HU2.out) (Rd.of_own HV2.out) HSM.out ⟨HCS.out, own_cap HU2.out, own_cap HV2.out⟩ (fun w' h => HT.out w' ((HBX.out _ HB5.out).trans (h.mono (HBX.out _ HB5.out).size)))).mono ?_
    rintro e w6 ⟨rfl, b6⟩
    have HB6 := Lib.hid (HB5.out.trans (b6.mono (by have := HB5.out.size; simp at this; omega)))
    have Y6 := HY5.out.below b6 HY5.out.lt
    have HU6 := Lib.hid (Rd.of_own (own_below HU2.out b6))
    have HV6 := Lib.hid (Rd.of_own (own_below HV2.out b6))
    clear y0 y1 y2 y3 y4 y5 hy
    clear b6
    have y0 := (HY.out _ HB6.out).cell 0 _ rfl
    have y1 := (HY.out _ HB6.out).cell 1 _ rfl
    have y2 := (HY.out _ HB6.out).cell 2 _ rfl
    have y3 := (HY.out _ HB6.out).cell 3 _ rfl
    have y4 := (HY.out _ HB6.out).cell 4 _ rfl
    have y5 := (HY.out _ HB6.out).cell 5 _ rfl
    have hy := (HY.out _ HB6.out).lt
    have x0 := Y6.cell 0 _ rfl
    have x1 := Y6.cell 1 _ rfl
    have x2 := Y6.cell 2 _ rfl
    have x3 := Y6.cell 3 _ rfl
    have x4 := Y6.cell 4 _ rfl
    have x5 := Y6.cell 5 _ rfl
    have hx := Y6.lt
    have HY6 := Lib.hid Y6
    clear Y6
    go_wp2_with fail
    go_region_held3 (fun w' => w'.cell? ⟨w.heap.size, 0, none⟩ = some (.int .i64 x.id) ∧ w'.cell? ⟨w.heap.size, 1, none⟩ = some (.string x.client) ∧ w'.cell? ⟨w.heap.size, 2, none⟩ = some (.int .i64 x.sent) ∧ w'.cell? ⟨w.heap.size, 3, none⟩ = some (.slice B x.items.length c) ∧ w'.cell? ⟨w.heap.size, 4, none⟩ = some (.slice D x.kept.length d) ∧ w'.cell? ⟨w.heap.size, 5, none⟩ = some (.int .i64 x.back) ∧ w'.cell? ⟨w4.heap.size, 0, none⟩ = some (.int .i64 x.id) ∧ w'.cell? ⟨w4.heap.size, 1, none⟩ = some (.string x.client) ∧ w'.cell? ⟨w4.heap.size, 2, none⟩ = some (.int .i64 x.sent) ∧ w'.cell? ⟨w4.heap.size, 3, none⟩ = some (.slice A2 x.items.length c2) ∧ w'.cell? ⟨w4.heap.size, 4, none⟩ = some (.slice D2 x.kept.length d2) ∧ w'.cell? ⟨w4.heap.size, 5, none⟩ = some (.int .i64 x.back)) (first | go_keep | exact ⟨(HY.out _ HB8.out).cell 0 _ rfl, (HY.out _ HB8.out).cell 1 _ rfl, (HY.out _ HB8.out).cell 2 _ rfl, (HY.out _ HB8.out).cell 3 _ rfl, (HY.out _ HB8.out).cell 4 _ rfl, (HY.out _ HB8.out).cell 5 _ rfl, (HY6.out.below B78.out HY6.out.lt).cell 0 _ rfl, (HY6.out.below B78.out HY6.out.lt).cell 1 _ rfl, (HY6.out.below B78.out HY6.out.lt).cell 2 _ rfl, (HY6.out.below B78.out HY6.out.lt).cell 3 _ rfl, (HY6.out.below B78.out HY6.out.lt).cell 4 _ rfl, (HY6.out.below B78.out HY6.out.lt).cell 5 _ rfl⟩ | exact ⟨(HY.out _ HB7.out).cell 0 _ rfl, (HY.out _ HB7.out).cell 1 _ rfl, (HY.out _ HB7.out).cell 2 _ rfl, (HY.out _ HB7.out).cell 3 _ rfl, (HY.out _ HB7.out).cell 4 _ rfl, (HY.out _ HB7.out).cell 5 _ rfl, (HY6.out.below B7.out HY6.out.lt).cell 0 _ rfl, (HY6.out.below B7.out HY6.out.lt).cell 1 _ rfl, (HY6.out.below B7.out HY6.out.lt).cell 2 _ rfl, (HY6.out.below B7.out HY6.out.lt).cell 3 _ rfl, (HY6.out.below B7.out HY6.out.lt).cell 4 _ rfl, (HY6.out.below B7.out HY6.out.lt).cell 5 _ rfl⟩) (first
      | (go_at_call 19; refine (CT.out _ ((HB.out.below (HBX.out _ HB6.out)).drew) ((HD.out.below (HBX.out _ HB6.out)).drew)).mono ?_; rintro e w7 ⟨u3, v3, rfl, ou3, ov3, -, b7⟩; obtain ⟨A3, c3, rfl⟩ := own_form ou3; obtain ⟨D3, d3, rfl⟩ := own_form ov3; have B7 : Hid (Below w6.heap.size w6 w7) := Lib.hid ((Below.refl _ _).drew.trans b7); have HB7 : Hid (Below (w.heap.size + 1) (w.alloc (.cells #[.int .i64 x.id, .string x.client, .int .i64 x.sent, .slice B x.items.length c, .slice D x.kept.length d, .int .i64 x.back] 43)) w7) := Lib.hid (HB6.out.trans (B7.out.mono (by have := HB6.out.size; simp at this; omega))); have HU7 := Lib.hid (Rd.of_own ou3); have HV7 := Lib.hid (Rd.of_own ov3); clear ou3 ov3 b7)
      | (go_at_call 21; refine (eqApproval_same x A2 A3 D2 D3 c2 c3 d2 d3 _ (HU6.out.below B7.out) HU7.out (HV6.out.below B7.out) HV7.out hi2 hk2).mono ?_; rintro e w8 ⟨rfl, b8⟩; have B78 : Hid (Below w6.heap.size w6 w8) := Lib.hid (B7.out.trans (b8.mono B7.out.size)); have HB8 : Hid (Below (w.heap.size + 1) (w.alloc (.cells #[.int .i64 x.id, .string x.client, .int .i64 x.sent, .slice B x.items.length c, .slice D x.kept.length d, .int .i64 x.back] 43)) w8) := Lib.hid (HB7.out.trans (b8.mono (by have := HB7.out.size; simp at this; omega))); clear b8))
    all_goals go_goals
    all_goals (
      go_wp2
      go_ret
      exact ⟨rfl, HBX.out _ HB8.out⟩)

theorem own : ownKnob Tryd.prog.godebug = none := by kernel_rfl
theorem laidOut : laidOutB Tryd.prog = true := by kernel_rfl
set_option maxRecDepth 100000 in
theorem lifted (os : Os) (started : os.Started) (H : Type) (enc : TypeId × Value → H) :
    ReturnsInHanded {} Tryd.checked os 6 .any (fun w args => (Rows.fnExactApprovalTextSpec.pre enc Tryd.prog Tryd.f6 [] false w args ∧ laidMetH Tryd.prog Rows.fnExactApprovalTextRow.laid w) ∧ sizedMet enc Tryd.prog Tryd.f6 (OpenSpec.ofChange Rows.fnExactApprovalTextSpec) false w args)
      (Rows.fnExactApprovalTextSpec.post enc Tryd.prog Tryd.f6 false true false false) := by
  refine returnsInHanded_of_change_and (C := Tryd.checked) (X := fun w _ => laidMetH Tryd.prog Rows.fnExactApprovalTextRow.laid w) (fun _ _ _ hh h => h.of_heap hh) own started (by kernel_rfl) Tryd.func6
    (ChangeSpec.witness_shaped (enc := enc) (C := Tryd.checked) (os := os) (X := fun w _ => laidMetH Tryd.prog Rows.fnExactApprovalTextRow.laid w) false (World.doorLaid Tryd.prog 24 os) #[.agg #[.int .i64 0, .string ⟨#[]⟩, .int .i64 0, .slice none 0 0, .slice none 0 0, .int .i64 0]] 8 rfl (World.shaped_of_RefB (by kernel_rfl) (by kernel_rfl)) (by kernel_rfl) (by kernel_rfl) (by kernel_rfl) (door_met os _)) ?_
  intro W base args ds gs before hval0 hW _ _ hL _
  have hval : ∀ (j : Nat) t v, Tryd.f6.params[j]? = some t → args[j]? = some v → Value.okWide Tryd.prog W .any base t v := hval0
  have hW' := hW
  obtain ⟨p, q, hA0, hV, rfl, hfz, hnd⟩ := hW
  have hA : DataW.TrodAll enc Tryd.prog W 0 (fun _ => true) true Tryd.f6.params.toList args.toList ds p := hA0
  rw [Tryd.params6] at hA hval
  obtain ⟨v0, vs0, d0, ds0, p0, q0, hargs, rfl, rfl, h0, r0⟩ := trodAll_cons hA
  obtain ⟨rfl, rfl, rfl⟩ := trodAll_nil r0
  obtain rfl : args = #[v0] := by cases args; simp_all
  obtain ⟨rfl, rfl⟩ := trodVars_none hV
  have k0 := h0
  have lt0 : ∀ x ∈ p0, x.block < W.heap.size := by obtain ⟨m, hm⟩ := k0; exact DataW.trod_lt m _ _ _ hm
  obtain ⟨x, B, c, D, dd, rfl, hcs, hb, hd, hrB, hrD⟩ := openVA (ti := 3) (ts := 41) (tt := 9) Tryd.underlying43 (by kernel_rfl) (by kernel_rfl) Tryd.underlying3 Tryd.underlying41 Tryd.underlying9 (by kernel_rfl) rfl rfl rfl rfl rfl rfl (hval 0 43 v0 rfl rfl) h0
  clear hA0 hval0
  refine (walk x B c D dd W hcs hb hd hrB hrD (tab_below hL)).mono fun e W' ⟨he, bel⟩ => ?_
  subst he
  exact ⟨_, rfl, _, _, _, [], _, [], hW', trodAll_mk1 (shut_bool Tryd.underlying4 _), (trodAll_cons_mk (Below.trod laidOut (by kernel_rfl) (of_decide_eq_true (by kernel_rfl)) k0 bel lt0) trodAll_mk0), rfl, bel.frame _, fun h => by cases h⟩

theorem over : Rows.fnExactApprovalTextRow.holds Tryd.pinned (OpenSpec.ofChange Rows.fnExactApprovalTextSpec) :=
  OpenClaim.holds_of_wide 6 Tryd.f6 rfl rfl rfl rfl rfl rfl rfl ⟨rfl, rfl, rfl, rfl, rfl⟩ rfl rfl rfl rfl rfl (by kernel_rfl) Tryd.func6 (by kernel_rfl)
    (of_decide_eq_true (by kernel_rfl)) (by unfold Func.isWrapper; first | (rw [if_pos (by decide +kernel)]; kernel_rfl) | (rw [if_neg (by decide +kernel)]; exact ⟨rfl, rfl⟩))
    (fun os started H enc _ => lifted os started H enc)

theorem proved : Rows.FnExactApprovalTextCardSaid :=
  Claim7.holds_tied_plain_at .later [] [.data, .data, .data] true Rows.fnExactApprovalTextCard.stood.harness false
    over (fun _ h => by cases h) (by kernel_rfl) (fun _ h => by cases h) fnExactApprovalText_row_tie rfl ⟨rfl, rfl⟩ (by kernel_rfl) rfl
    (fun f fn hf hfn => by
      obtain rfl : f = 6 := Option.some.inj ((show Tryd.prog.funcNamed "loop.example/g01062/laws.FnExactApprovalText" = some 6 by kernel_rfl).symm.trans hf) |>.symm
      obtain rfl : fn = Tryd.f6 := (Option.some.inj (Tryd.func6.symm.trans hfn)).symm
      exact ⟨by kernel_rfl, fun j t ht => by
        rw [Tryd.params6] at ht
        have hm : t ∈ [43] := by simpa using Array.mem_of_getElem? ht
        have hall : ([43].all fun u => !Tryd.prog.wantsStandIn u) = true := by kernel_rfl
        exact (show Tryd.prog.wantsStandIn t = false by simpa using List.all_eq_true.1 hall t hm)⟩)
    (by kernel_rfl)
#print axioms proved
end Go.Proofs.YtfejjdplclngnaaDoor.ltApproval
