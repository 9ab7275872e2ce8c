/- The auctions that the law draws. -/
import Derived.Test.YtjnbcippipookaaAuY
import Derived.Test.YtjnbcippipookaaAuU
import Derived.Test.YtjnbcippipookaaAuL
namespace Go.Proofs.Ytjnbcippipookaa
set_option linter.unusedVariables false
set_option linter.unusedSimpArgs false
open Go.RowKit

theorem oneCell_s (x : R5) : ∀ u ∈ x.cells, u.oneCell' = true := fun u hu => oneCell_cells5 [x] u (by simpa [cells5] using hu)
def dB (xs : List R5) : Prop := ∀ x ∈ xs, 0 ≤ x.d ∧ x.d ≤ 99999
theorem dB_auc {xs : List R5} (h : auc xs = true) : dB xs := fun x hx => by
  obtain ⟨k, hk⟩ := List.mem_iff_getElem?.1 hx
  exact (lot_bd (auc_at h hk)).2.2.1
theorem dB_snoc {xs : List R5} {x : R5} (h : dB xs) (hx : 0 ≤ x.d ∧ x.d ≤ 99999) : dB (xs ++ [x]) := fun y hy => by
  rcases List.mem_append.1 hy with hy | hy
  · exact h y hy
  · simp at hy; subst hy; exact hx
theorem stp_auc {xs : List R5} {k i b v : Int} (h : stpB xs k i b v = true) : auc (stpV xs k i b v) = true ∧ auc xs = true ∧ stepB k i b v = true ∧ stB xs k i b v = true ∧ stpV xs k i b v = stL xs k i b v := by
  simp only [stpB, Bool.and_eq_true] at h
  obtain ⟨h1, h2, h3⟩ := h
  obtain ⟨-, e⟩ := stp_yes h1 h2
  refine ⟨?_, h1, h2, h3, e⟩
  rw [e]
  cases ho : stO xs k i b v with
  | none => rw [stB, ho] at h3; cases h3
  | some l => rw [stL, ho]; exact (step_fact h1 h2 ho).1
theorem own_far {w : World} {base e n c : Nat} {A : Option Addr} {cs : List Value} {s : Nat} (h : w.ownsRow base e s (.slice A n c) n cs) {p : Nat} (hp : p < base) : ∀ g o q, A = some ⟨g, o, q⟩ → g ≠ p := fun g o q e' => by
  subst e'
  have := (h.lt g rfl).1
  omega
def RetCA (p : Nat) (u : Cu) (k d : Nat) (W : World) : Ending → World → Prop := fun e w' => ∃ v xs k', e = .returned v ∧ w'.ownsRow W.heap.size 36 5 v xs.length (cells5 xs) ∧ xs.length ≤ 9 ∧ dB xs ∧ k' ≤ k + d ∧ CurB w' p u k' ∧ W.grownBy w' (some p)

set_option maxRecDepth 20000 in
set_option maxHeartbeats 8000000 in
theorem auction_any (p k : Nat) (u : Cu) (w : World) (h : CurB w p u k) (hk : k ≤ 500000) :
    Calls Try.prog 16 #[.pointer (some ⟨p, 0, none⟩)] w (RetCA p u k 3000 w) := by
  have PK := Lib.hid (fun k m w h hk hm hm2 => pick_any p k m u w h hk hm hm2)
  have AM := Lib.hid (fun k n c A zs w h hk hz hn hn2 hA hf => among_any p k n c u A zs w h hk hz hn hn2 hA hf)
  have ST := Lib.hid (fun k A n c xs w hn hn2 hd hA hf h hk => auctionStep_any p k u A n c xs w hn hn2 hd hA hf h hk)
  have HC := Lib.hid h
  have hp := h.lt
  clear h
  go_enter Try.func16, Try.ntmps16
  go_wp2_with fail
  refine (PK.out k 36 _ (HC.out.alloc _) (by omega) (by decide) (by decide)).mono ?_
  rintro e w1 ⟨v1, k1, rfl, ⟨r1, rfl, a1, b1⟩, hk1, hc, hg⟩
  obtain ⟨m, rfl⟩ : ∃ m : Nat, r1 = m := ⟨r1.toNat, by omega⟩
  have hm : m ≤ 35 := by omega
  have HL0 : Hid (LRel w 36 p u [] (.slice (some ⟨w.heap.size, 0, none⟩) 0 0) k1 w1) := Lib.hid (LRel.call (wr := w.alloc (.cells #[] 36)) (k := k) ⟨own_empty w _ _ _ (Nat.le_refl _), HC.out.alloc _, World.grownBy_alloc w _ _⟩ hp hc hg)
  clear a1 b1 hc hg HC
  go_wp2_with fail
  go_loopw [3, 4, 5, 6] (fun v i _ _ wr => ∃ (j : Nat) (xs : List R5) (kk : Nat), i = .int .i64 j ∧ j ≤ m ∧ auc xs = true ∧ kk + 62 * j ≤ k1 + 62 * m ∧ LRel w 36 p u xs v kk wr) (fun _ i _ _ _ => (intOf i).toNat)
  case atStart => exact ⟨m, [], k1, rfl, by omega, by decide, by omega, HL0.out⟩
  case round =>
    obtain ⟨j, xs, kk, rfl, hj, hax, hkk, hL⟩ := hrel
    obtain ⟨A, c, rfl⟩ := own_form hL.own
    have HL := Lib.hid hL
    have HX := Lib.hid hax
    have hx8 := auc_len hax
    clear hL HL0 hax
    by_cases hj0 : 0 < j
    · have hj0' : (0 : Int) < (j : Int) := by omega
      go_wp2_with fail
      refine (ST.out kk A xs.length c xs _ rfl (by omega) (dB_auc HX.out) (Rd.of_own HL.out.own) (own_far HL.out.own hp) HL.out.cur (by omega)).mono ?_
      rintro e w2 ⟨v2, k2, rfl, ⟨q1, q2, q3, q4, rfl⟩, hk2, hc, hg⟩
      have HL2 := Lib.hid (HL.out.call hp hc hg)
      clear hc hg HL
      go_wp2_with fail
      refine (specStepAuction_any A xs.length c xs q1 q2 q3 q4 _ rfl (Rd.of_own HL2.out.own) (by omega) (own_capS HL2.out.own).1 (own_capS HL2.out.own).2).mono ?_
      rintro e w3 ⟨v3, rfl, o3, b3⟩
      obtain ⟨A3, c3, rfl⟩ := own_form o3
      cases hB : stpB xs q1 q2 q3 q4 with
      | true =>
        have HL3 := Lib.hid (HL2.out.new o3 b3)
        have HX3 := Lib.hid (stp_auc hB).1
        clear o3 b3 hB HL2
        go_wp2
        go_roundw
        case rel => exact ⟨j - 1, _, k2, by go_num, by omega, HX3.out, by omega, HL3.out⟩
        case measure => simp [intOf]; omega
      | false =>
        have HL3 := Lib.hid (HL2.out.below b3)
        clear o3 b3 hB HL2
        go_wp2
        go_roundw
        case rel => exact ⟨j - 1, _, k2, by go_num, by omega, HX.out, by omega, HL3.out⟩
        case measure => simp [intOf]; omega
    · obtain rfl : j = 0 := by omega
      go_wp2_with fail
      refine (PK.out kk 24 _ HL.out.cur (by omega) (by decide) (by decide)).mono ?_
      rintro e w2 ⟨v2, k2, rfl, ⟨r2, rfl, a2, b2⟩, hk2, hc, hg⟩
      have HL2 := Lib.hid (HL.out.call hp hc hg)
      clear hc hg HL
      by_cases h0 : r2 = 0
      · subst h0
        go_wp2_with fail
        refine (AM.out k2 3 _ (some ⟨w2.heap.size, 0, none⟩) [0, 1, 99] _ (HL2.out.cur.alloc _) (by omega) rfl (by decide) (by decide) (rd_ints (w := w2) [0, 1, 99] 3) (fun g o q e => by have := HL2.out.cur.lt; injection e with e; injection e with e; omega)).mono ?_
        rintro e w3 ⟨v3, k3, rfl, ⟨z3, -, rfl⟩, hk3, hc, hg⟩
        have HL3 := Lib.hid ((HL2.out.below ((Below.refl _ _).alloc (Nat.le_refl _) _)).call hp hc hg)
        clear hc hg HL2
        go_wp2_with fail
        refine (PK.out k3 5 _ HL3.out.cur (by omega) (by decide) (by decide)).mono ?_
        rintro e w4 ⟨v4, k4, rfl, ⟨r4, rfl, a4, b4⟩, hk4, hc, hg⟩
        have HL4 := Lib.hid (HL3.out.call hp hc hg)
        clear hc hg HL3
        obtain ⟨x, hx⟩ : ∃ x : R5, x = ⟨z3, 0, r4, 0, 0⟩ := ⟨_, rfl⟩
        have HO := Lib.hid ((HL4.out.below ((Below.refl _ _).alloc (Nat.le_refl _) (.cells #[.int .i64 z3, .int .i64 0, .int .i64 r4, .int .i64 0, .int .i64 0] 36))).own)
        have HXr : Hid (Rd (w4.alloc (.cells #[.int .i64 z3, .int .i64 0, .int .i64 r4, .int .i64 0, .int .i64 0] 36)) (some ⟨w4.heap.size, 0, none⟩) x.cells) := Lib.hid (by rw [hx]; exact rd_new #[.int .i64 z3, .int .i64 0, .int .i64 r4, .int .i64 0, .int .i64 0] 36 rfl)
        have hbs : w.heap.size ≤ (w4.alloc (.cells #[.int .i64 z3, .int .i64 0, .int .i64 r4, .int .i64 0, .int .i64 0] 36)).heap.size := by have := HL4.out.sz; simp; omega
        go_wp2_with (at_builtin; go_must (refine wpList_app _ rfl (.tmp 28) (.tmp 35) 24 rfl w.heap.size 36 _ 5 40 Try.underlying24 info36 rfl (by omega) _ _ _ rfl HO.out _ 1 1 x.cells rfl rfl HXr.out (oneCell_s x) (by unfold maxLen; omega) (by omega) hbs ?_); intro v6 w6 o6 g6 d6; refine Hid.out ?_)
        have HLf := Lib.hid (HL4.out.push (x := x) hp ((Below.refl _ _).alloc (Nat.le_refl _) _) o6 g6)
        have HXd : Hid (0 ≤ x.d ∧ x.d ≤ 99999) := Lib.hid (by rw [hx]; simp)
        obtain ⟨A6, c6, rfl⟩ := own_form HLf.out.own
        clear o6 g6 d6 HO HXr hbs hx
        refine Lib.hid ?_
        go_wp2
        go_ret
        exact ⟨_, _, k4, rfl, HLf.out.own, by simp; omega, dB_snoc (dB_auc HX.out) HXd.out, by omega, HLf.out.cur, HLf.out.gr⟩
      · by_cases h1 : r2 = 1
        · subst h1
          go_wp2_with fail
          refine (PK.out k2 4 _ HL2.out.cur (by omega) (by decide) (by decide)).mono ?_
          rintro e w3 ⟨v3, k3, rfl, ⟨r3, rfl, a3, b3⟩, hk3, hc, hg⟩
          have HL3 := Lib.hid (HL2.out.call hp hc hg)
          clear hc hg HL2
          go_wp2_with fail
          refine (AM.out k3 3 _ (some ⟨w3.heap.size, 0, none⟩) [4, 5, 0] _ (HL3.out.cur.alloc _) (by omega) rfl (by decide) (by decide) (rd_ints (w := w3) [4, 5, 0] 3) (fun g o q e => by have := HL3.out.cur.lt; injection e with e; injection e with e; omega)).mono ?_
          rintro e w4 ⟨v4, k4, rfl, ⟨z4, hz4, rfl⟩, hk4, hc, hg⟩
          have hz4 : z4 = 4 ∨ z4 = 5 ∨ z4 = 0 := by simpa using hz4
          have HL4 := Lib.hid ((HL3.out.below ((Below.refl _ _).alloc (Nat.le_refl _) _)).call hp hc hg)
          clear hc hg HL3
          go_wp2_with fail
          refine (AM.out k4 2 _ (some ⟨w4.heap.size, 0, none⟩) [0, 3] _ (HL4.out.cur.alloc _) (by omega) rfl (by decide) (by decide) (rd_ints (w := w4) [0, 3] 3) (fun g o q e => by have := HL4.out.cur.lt; injection e with e; injection e with e; omega)).mono ?_
          rintro e w5 ⟨v5, k5, rfl, ⟨z5, -, rfl⟩, hk5, hc, hg⟩
          have HL5 := Lib.hid ((HL4.out.below ((Below.refl _ _).alloc (Nat.le_refl _) _)).call hp hc hg)
          clear hc hg HL4
          obtain ⟨x, hx⟩ : ∃ x : R5, x = ⟨99, 5, r3, z4, z5⟩ := ⟨_, rfl⟩
          have HXd : Hid (0 ≤ x.d ∧ x.d ≤ 99999) := Lib.hid (by rw [hx]; simp only; omega)
          clear hz4
          have HO := Lib.hid ((HL5.out.below ((Below.refl _ _).alloc (Nat.le_refl _) (.cells #[.int .i64 99, .int .i64 5, .int .i64 r3, .int .i64 z4, .int .i64 z5] 36))).own)
          have HXr : Hid (Rd (w5.alloc (.cells #[.int .i64 99, .int .i64 5, .int .i64 r3, .int .i64 z4, .int .i64 z5] 36)) (some ⟨w5.heap.size, 0, none⟩) x.cells) := Lib.hid (by rw [hx]; exact rd_new #[.int .i64 99, .int .i64 5, .int .i64 r3, .int .i64 z4, .int .i64 z5] 36 rfl)
          have hbs : w.heap.size ≤ (w5.alloc (.cells #[.int .i64 99, .int .i64 5, .int .i64 r3, .int .i64 z4, .int .i64 z5] 36)).heap.size := by have := HL5.out.sz; simp; omega
          go_wp2_with (at_builtin; go_must (refine wpList_app _ rfl (.tmp 39) (.tmp 49) 24 rfl w.heap.size 36 _ 5 40 Try.underlying24 info36 rfl (by omega) _ _ _ rfl HO.out _ 1 1 x.cells rfl rfl HXr.out (oneCell_s x) (by unfold maxLen; omega) (by omega) hbs ?_); intro v6 w6 o6 g6 d6; refine Hid.out ?_)
          have HLf := Lib.hid (HL5.out.push (x := x) hp ((Below.refl _ _).alloc (Nat.le_refl _) _) o6 g6)
          obtain ⟨A6, c6, rfl⟩ := own_form HLf.out.own
          clear o6 g6 d6 HO HXr hbs hx
          refine Lib.hid ?_
          go_wp2
          go_ret
          exact ⟨_, _, k5, rfl, HLf.out.own, by simp; omega, dB_snoc (dB_auc HX.out) HXd.out, by omega, HLf.out.cur, HLf.out.gr⟩
        · have h0d : (r2 == 0) = false := by simp [h0]
          have h1d : (r2 == 1) = false := by simp [h1]
          go_wp2
          go_ret
          exact ⟨_, _, k2, rfl, HL2.out.own, by omega, dB_auc HX.out, by omega, HL2.out.cur, HL2.out.gr⟩

end Go.Proofs.Ytjnbcippipookaa
