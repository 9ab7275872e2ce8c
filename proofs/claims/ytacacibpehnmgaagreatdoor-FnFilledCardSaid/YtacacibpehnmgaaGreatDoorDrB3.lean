/- What the law on books draws: bookId and the draws. -/
import Derived.Test.YtacacibpehnmgaaGreatDoorDrB2
namespace Go.Proofs.YtacacibpehnmgaaGreatDoor
set_option linter.unusedVariables false
set_option linter.unusedSimpArgs false
open Go.RowKit

/-- The list that a draw returns: it reads as xs. -/
structure LstB (w : World) (v : Value) (xs : List BR) : Prop where
  form : ∃ A c, v = .slice A xs.length c ∧ RdB w A xs ∧ xs.length ≤ c ∧ c ≤ maxLen
  len : xs.length ≤ 10
  wid : ∀ x ∈ xs, x.ws.length ≤ 13
theorem LstB.of {w : World} {lo E EI : Nat} {v : Value} {xs : List BR} {vs : List Value} (h : OwnB w lo E EI v xs vs) (hl : xs.length ≤ 10) (hw : ∀ x ∈ xs, x.ws.length ≤ 13) : LstB w v xs := by
  obtain ⟨A, c, rfl⟩ := own_form h.2.1
  exact ⟨⟨A, c, rfl, h.rd2, (own_capS h.2.1).1, (own_capS h.2.1).2⟩, hl, hw⟩
theorem LstB.below {w w' : World} {v : Value} {xs : List BR} (h : LstB w v xs) (hb : Below w.heap.size w w') : LstB w' v xs := by
  obtain ⟨⟨A, c, e, r, h1, h2⟩, hl, hw⟩ := h
  exact ⟨⟨A, c, e, r.below hb, h1, h2⟩, hl, hw⟩

set_option maxRecDepth 20000 in
set_option maxHeartbeats 4000000 in
theorem bookId_any (p k : Nat) (u : Cu) (w : World) (A : Option Addr) (n c : Nat) (xs : List BR) (hn : xs.length = n) (hx : n ≤ 10) (hA : RdB w A xs) (hf : ∀ g o q, A = some ⟨g, o, q⟩ → g ≠ p) (h : CurB w p u k) (hk : k ≤ 800000) :
    Calls Tryz.prog 48 #[.pointer (some ⟨p, 0, none⟩), .slice A n c] w (RetC p u k 4 IntV w) := by
  have AM := Lib.hid (fun k n c A zs w h hk hz hn hn2 hA hf => among_any p k n c u A zs w h hk hz hn hn2 hA hf)
  have PK := Lib.hid (fun k m w h hk hm hm2 => pick_any p k m u w h hk hm hm2)
  have ON := Lib.hid (fun k m w h hk hm hm2 => one_any p k m u w h hk hm hm2)
  have HC := Lib.hid h
  have HN := Lib.hid hn
  have HA := Lib.hid hA
  have HF := Lib.hid hf
  clear h hn hA hf
  go_enter Tryz.func48, Tryz.ntmps48
  by_cases h0 : n = 0
  · subst h0
    go_wp2_with fail
    refine (AM.out k 3 _ (some ⟨w.heap.size, 0, none⟩) [0, 1, 50] _ (HC.out.alloc _) (by omega) rfl (by decide) (by decide) (rd_ints (w := w) [0, 1, 50] 3) (fun g o q e => by have := HC.out.lt; injection e with e; injection e with e; omega)).mono ?_
    rintro e w1 ⟨vw1, k1, rfl, ⟨zw1, -, rfl⟩, hk1, hc, hg⟩
    go_wp2
    go_ret
    exact ⟨_, k1, rfl, ⟨_, rfl⟩, by omega, hc, grown_trans (World.grownBy_alloc w _ _) hg⟩
  · have hn0 : ((n : Int) == 0) = false := by simp; omega
    go_wp2_with fail
    refine (ON.out k 10 _ HC.out (by omega) (by decide) (by decide)).mono ?_
    rintro e w1 ⟨v1, k1, rfl, ⟨b1, rfl⟩, hk1, hc, hg⟩
    have HC1 := Lib.hid hc
    have HG1 := Lib.hid hg
    clear hc hg
    cases b1 with
    | true =>
      go_wp2_with fail
      refine (AM.out k1 3 _ (some ⟨w1.heap.size, 0, none⟩) [0, 1, 50] _ (HC1.out.alloc _) (by omega) rfl (by decide) (by decide) (rd_ints (w := w1) [0, 1, 50] 3) (fun g o q e => by have := HC1.out.lt; injection e with e; injection e with e; omega)).mono ?_
      rintro e w2 ⟨vw2, k2, rfl, ⟨zw2, -, rfl⟩, hk2, hc, hg⟩
      go_wp2
      go_ret
      exact ⟨_, k2, rfl, ⟨_, rfl⟩, by omega, hc, grown_trans HG1.out (grown_trans (World.grownBy_alloc w1 _ _) hg)⟩
    | false =>
      go_wp2_with fail
      refine (PK.out k1 n _ HC1.out (by omega) (by omega) (by omega)).mono ?_
      rintro e w2 ⟨v2, k2, rfl, ⟨r2, rfl, a2, b2⟩, hk2, hc, hg⟩
      have HC2 := Lib.hid hc
      have HG2 := Lib.hid (grown_trans HG1.out hg)
      clear hc hg
      obtain ⟨m, rfl⟩ : ∃ m : Nat, r2 = m := ⟨r2.toNat, by omega⟩
      have hml : m < n := by omega
      obtain ⟨x, hxm⟩ : ∃ x, xs[m]? = some x := ⟨xs[m]'(by have := HN.out; omega), List.getElem?_eq_getElem _⟩
      obtain ⟨g, o, B, cB, hAe, hgl, c0, -⟩ := HA.out.at hxm
      have hgp := HF.out g o none hAe
      subst hAe
      have c1 : w2.cell? ⟨g, o + m * 2, none⟩ = some (.int .i64 x.id) := (app_keep HG2.out hgl (by intro e; injection e with e; exact hgp e) _).trans c0
      have hml' : (m : Int) < (n : Int) := by omega
      have hm0 : (0 : Int) ≤ (m : Int) := by omega
      clear c0 a2 b2 hxm
      go_wp2
      go_ret
      exact ⟨_, k2, rfl, ⟨_, rfl⟩, by omega, HC2.out, HG2.out⟩
end Go.Proofs.YtacacibpehnmgaaGreatDoor
