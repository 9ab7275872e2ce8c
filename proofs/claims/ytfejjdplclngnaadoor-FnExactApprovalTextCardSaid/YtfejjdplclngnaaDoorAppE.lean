/- Approvals: comparison, and the numbers that a list holds. -/
import Derived.Test.YtfejjdplclngnaaDoorApp
namespace Go.Proofs.YtfejjdplclngnaaDoor
set_option linter.unusedVariables false
set_option linter.unusedSimpArgs false
open Go.RowKit

set_option maxHeartbeats 2000000 in
set_option maxRecDepth 20000 in
theorem eqApproval_same (x : AR) (A B D F : Option Addr) (c d p q : Nat) (w : World) (hA : Rd w A (cells1 x.items)) (hB : Rd w B (cells1 x.items)) (hD : Rd w D (cells1 x.kept)) (hF : Rd w F (cells1 x.kept)) (h1 : x.items.length ≤ 1048576) (h2 : x.kept.length ≤ 1048576) :
    Calls Tryd.prog 21 #[.agg #[.int .i64 x.id, .string x.client, .int .i64 x.sent, .slice A x.items.length c, .slice D x.kept.length p, .int .i64 x.back], .agg #[.int .i64 x.id, .string x.client, .int .i64 x.sent, .slice B x.items.length d, .slice F x.kept.length q, .int .i64 x.back]] w (Ret (.bool true) w) := by
  have C0 := Lib.hid (fun w h h' => eqIntS_same A B _ c d x.items w rfl h h' h1)
  have C1 := Lib.hid (fun w h h' => eqIntS_same D F _ p q x.kept w rfl h h' h2)
  have HA := Lib.hid ((hA.alloc (.cells #[.int .i64 x.id, .string x.client, .int .i64 x.sent, .slice A x.items.length c, .slice D x.kept.length p, .int .i64 x.back] 46)).alloc (.cells #[.int .i64 x.id, .string x.client, .int .i64 x.sent, .slice B x.items.length d, .slice F x.kept.length q, .int .i64 x.back] 46))
  have HB := Lib.hid ((hB.alloc (.cells #[.int .i64 x.id, .string x.client, .int .i64 x.sent, .slice A x.items.length c, .slice D x.kept.length p, .int .i64 x.back] 46)).alloc (.cells #[.int .i64 x.id, .string x.client, .int .i64 x.sent, .slice B x.items.length d, .slice F x.kept.length q, .int .i64 x.back] 46))
  have HD := Lib.hid ((hD.alloc (.cells #[.int .i64 x.id, .string x.client, .int .i64 x.sent, .slice A x.items.length c, .slice D x.kept.length p, .int .i64 x.back] 46)).alloc (.cells #[.int .i64 x.id, .string x.client, .int .i64 x.sent, .slice B x.items.length d, .slice F x.kept.length q, .int .i64 x.back] 46))
  have HF := Lib.hid ((hF.alloc (.cells #[.int .i64 x.id, .string x.client, .int .i64 x.sent, .slice A x.items.length c, .slice D x.kept.length p, .int .i64 x.back] 46)).alloc (.cells #[.int .i64 x.id, .string x.client, .int .i64 x.sent, .slice B x.items.length d, .slice F x.kept.length q, .int .i64 x.back] 46))
  have HX := Lib.hid ((Blk.new w [.int .i64 x.id, .string x.client, .int .i64 x.sent, .slice A x.items.length c, .slice D x.kept.length p, .int .i64 x.back] 46).alloc (.cells #[.int .i64 x.id, .string x.client, .int .i64 x.sent, .slice B x.items.length d, .slice F x.kept.length q, .int .i64 x.back] 46))
  have HY := Lib.hid (Blk.new (w.alloc (.cells #[.int .i64 x.id, .string x.client, .int .i64 x.sent, .slice A x.items.length c, .slice D x.kept.length p, .int .i64 x.back] 46)) [.int .i64 x.id, .string x.client, .int .i64 x.sent, .slice B x.items.length d, .slice F x.kept.length q, .int .i64 x.back] 46)
  clear hA hB hD hF h1 h2
  go_enter Tryd.func21, Tryd.ntmps21
  go_wp2_with fail
  refine (C0.out _ HA.out HB.out).mono ?_
  rintro e w1 ⟨rfl, b1⟩
  have hx := HX.out.below b1 HX.out.lt
  have hy := HY.out.below b1 HY.out.lt
  have hs := b1.size
  have x4 := hx.cell 4 _ rfl
  have x5 := hx.cell 5 _ rfl
  have y4 := hy.cell 4 _ rfl
  have y5 := hy.cell 5 _ rfl
  have HX1 := Lib.hid hx
  have HY1 := Lib.hid hy
  clear hx hy
  simp only [World.size_alloc] at y4 y5
  go_wp2_with fail
  refine (C1.out _ (HD.out.below b1) (HF.out.below b1)).mono ?_
  rintro e w2 ⟨rfl, b2⟩
  have hx := HX1.out.below b2 HX1.out.lt
  have hy := HY1.out.below b2 HY1.out.lt
  have z5 := hx.cell 5 _ rfl
  have u5 := hy.cell 5 _ rfl
  simp only [World.size_alloc] at u5
  clear hx hy
  go_wp2
  go_ret
  exact ⟨rfl, ((((Below.refl _ _).alloc (Nat.le_refl _) _).alloc (by simp) _).trans (b1.mono (by simp; omega))).trans (b2.mono (by simp at hs; omega))⟩

end Go.Proofs.YtfejjdplclngnaaDoor
