/- Approvals: comparison, and the numbers that a list holds. -/
import Derived.Test.YtaobhehjoijpiaaApp
namespace Go.Proofs.Ytaobhehjoijpiaa
set_option linter.unusedVariables false
set_option linter.unusedSimpArgs false
open Go.RowKit

set_option maxHeartbeats 2000000 in
set_option maxRecDepth 20000 in
theorem eqApproval_same (x : AR) (A B D F : Option Addr) (c d p q : Nat) (w : World) (hA : Rd w A (cells1 x.items)) (hB : Rd w B (cells1 x.items)) (hD : Rd w D (cells1 x.kept)) (hF : Rd w F (cells1 x.kept)) (h1 : x.items.length ≤ 1048576) (h2 : x.kept.length ≤ 1048576) :
    Calls Try.prog 55 #[.agg #[.int .i64 x.id, .string x.client, .int .i64 x.sent, .slice A x.items.length c, .slice D x.kept.length p, .int .i64 x.back], .agg #[.int .i64 x.id, .string x.client, .int .i64 x.sent, .slice B x.items.length d, .slice F x.kept.length q, .int .i64 x.back]] w (Ret (.bool true) w) := by
  have C0 := Lib.hid (fun w h h' => eqIntS_same A B _ c d x.items w rfl h h' h1)
  have C1 := Lib.hid (fun w h h' => eqIntS_same D F _ p q x.kept w rfl h h' h2)
  have HA := Lib.hid ((hA.alloc (.cells #[.int .i64 x.id, .string x.client, .int .i64 x.sent, .slice A x.items.length c, .slice D x.kept.length p, .int .i64 x.back] 60)).alloc (.cells #[.int .i64 x.id, .string x.client, .int .i64 x.sent, .slice B x.items.length d, .slice F x.kept.length q, .int .i64 x.back] 60))
  have HB := Lib.hid ((hB.alloc (.cells #[.int .i64 x.id, .string x.client, .int .i64 x.sent, .slice A x.items.length c, .slice D x.kept.length p, .int .i64 x.back] 60)).alloc (.cells #[.int .i64 x.id, .string x.client, .int .i64 x.sent, .slice B x.items.length d, .slice F x.kept.length q, .int .i64 x.back] 60))
  have HD := Lib.hid ((hD.alloc (.cells #[.int .i64 x.id, .string x.client, .int .i64 x.sent, .slice A x.items.length c, .slice D x.kept.length p, .int .i64 x.back] 60)).alloc (.cells #[.int .i64 x.id, .string x.client, .int .i64 x.sent, .slice B x.items.length d, .slice F x.kept.length q, .int .i64 x.back] 60))
  have HF := Lib.hid ((hF.alloc (.cells #[.int .i64 x.id, .string x.client, .int .i64 x.sent, .slice A x.items.length c, .slice D x.kept.length p, .int .i64 x.back] 60)).alloc (.cells #[.int .i64 x.id, .string x.client, .int .i64 x.sent, .slice B x.items.length d, .slice F x.kept.length q, .int .i64 x.back] 60))
  have HX := Lib.hid ((Blk.new w [.int .i64 x.id, .string x.client, .int .i64 x.sent, .slice A x.items.length c, .slice D x.kept.length p, .int .i64 x.back] 60).alloc (.cells #[.int .i64 x.id, .string x.client, .int .i64 x.sent, .slice B x.items.length d, .slice F x.kept.length q, .int .i64 x.back] 60))
  have HY := Lib.hid (Blk.new (w.alloc (.cells #[.int .i64 x.id, .string x.client, .int .i64 x.sent, .slice A x.items.length c, .slice D x.kept.length p, .int .i64 x.back] 60)) [.int .i64 x.id, .string x.client, .int .i64 x.sent, .slice B x.items.length d, .slice F x.kept.length q, .int .i64 x.back] 60)
  clear hA hB hD hF h1 h2
  go_enter Try.func55, Try.ntmps55
  go_wp2_with fail
  refine (C0.out _ HA.out HB.out).mono ?_
  rintro e w1 ⟨rfl, b1⟩
  have hx := HX.out.below b1 HX.out.lt
  have hy := HY.out.below b1 HY.out.lt
  have hs := b1.size
  have x4 := hx.cell 4 _ rfl
  have x5 := hx.cell 5 _ rfl
  have y4 := hy.cell 4 _ rfl
  have y5 := hy.cell 5 _ rfl
  have HX1 := Lib.hid hx
  have HY1 := Lib.hid hy
  clear hx hy
  simp only [World.size_alloc] at y4 y5
  go_wp2_with fail
  refine (C1.out _ (HD.out.below b1) (HF.out.below b1)).mono ?_
  rintro e w2 ⟨rfl, b2⟩
  have hx := HX1.out.below b2 HX1.out.lt
  have hy := HY1.out.below b2 HY1.out.lt
  have z5 := hx.cell 5 _ rfl
  have u5 := hy.cell 5 _ rfl
  simp only [World.size_alloc] at u5
  clear hx hy
  go_wp2
  go_ret
  exact ⟨rfl, ((((Below.refl _ _).alloc (Nat.le_refl _) _).alloc (by simp) _).trans (b1.mono (by simp; omega))).trans (b2.mono (by simp at hs; omega))⟩

set_option maxHeartbeats 2000000 in
set_option maxRecDepth 20000 in
theorem eqApprovalS_same (A B : Option Addr) (n c d : Nat) (xs : List AR) (w : World) (hn : xs.length = n) (hA : RdA w A xs) (hB : RdA w B xs) (h20 : n ≤ 1048576) (hw : ∀ x ∈ xs, smA x) :
    Calls Try.prog 18 #[.slice A n c, .slice B n d] w (Ret (.bool true) w) := by
  go_enter Try.func18, Try.ntmps18
  go_wp2_with fail
  go_loopw [4, 5] (fun r i wr => ∃ k : Nat, k ≤ n ∧ i = .int .i64 k ∧ r = .bool false ∧ Below w.heap.size w wr) (fun _ i _ => n - (intOf i).toNat)
  case atStart => exact ⟨0, Nat.zero_le _, rfl, rfl, Below.refl _ _⟩
  case round =>
    obtain ⟨k, hk, rfl, rfl, hb⟩ := hrel
    by_cases hlt : k < n
    · obtain ⟨x, hxk⟩ : ∃ x, xs[k]? = some x := ⟨xs[k], List.getElem?_eq_getElem (by omega)⟩
      obtain ⟨-, hwi, hwk⟩ := hw x (List.mem_of_getElem? hxk)
      obtain ⟨g, o, P, p, P', p', rfl, hr⟩ := (hA.below hb).at hxk
      obtain ⟨g', o', Q, q, Q', q', rfl, hr'⟩ := (hB.below hb).at hxk
      have C0 := Lib.hid (fun w h1 h2 h3 h4 => eqApproval_same x P Q P' Q' p q p' q' w h1 h2 h3 h4 hwi hwk)
      obtain ⟨hg, -, c0, c1, c2, c3, c4, c5, -, -, -, -, hP, hP'⟩ := hr
      obtain ⟨hg', -, d0, d1, d2, d3, d4, d5, -, -, -, -, hQ, hQ'⟩ := hr'
      have HP := Lib.hid hP
      have HQ := Lib.hid hQ
      have HP' := Lib.hid hP'
      have HQ' := Lib.hid hQ'
      clear hA hB hxk hP hQ hwi hwk hP' hQ' hw
      go_wp2_with fail
      refine wp_region_lat wr.heap.size (by kernel_rfl) (by kernel_rfl) ?_
      have LC := fun (u : Lat wr.heap.size wr) => u.cell
      repeat (go_big_quiet_step ((go_at_call 55; exact lat_call _ (Nat.le_refl _) (C0.out _ (HP.out.below (Lat.below _)) (HQ.out.below (Lat.below _)) (HP'.out.below (Lat.below _)) (HQ'.out.below (Lat.below _))))))
      refine wpQuiet_nil ?_
      intro w1 hb1
      clear LC
      go_wp2
      go_roundw
      case rel => exact ⟨k + 1, by omega, by go_num, rfl, hb.trans (hb1.mono hb.size)⟩
      case measure => simp [intOf]; omega
    · go_wp2
      go_ret
      exact ⟨rfl, hb⟩
end Go.Proofs.Ytaobhehjoijpiaa
