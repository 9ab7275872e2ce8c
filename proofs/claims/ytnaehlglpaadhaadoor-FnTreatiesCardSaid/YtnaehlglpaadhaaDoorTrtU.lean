/- The list of treaties that the cursor draws. -/
import Derived.Test.YtnaehlglpaadhaaDoorCurT
namespace Go.Proofs.YtnaehlglpaadhaaDoor
set_option linter.unusedVariables false
set_option linter.unusedSimpArgs false
open Go.RowKit

theorem own_capS {w : World} {base e size n c : Nat} {A : Option Addr} {cs : List Value} (h : w.ownsRow base e size (.slice A n c) n cs) : n ≤ c ∧ c ≤ maxLen := by
  rcases h.2 with ⟨h', h0⟩ | ⟨g, cap, cur, h', _, _, hnc, hcm, _⟩
  · injection h' with _ _ h3
    subst h3; subst h0
    exact ⟨Nat.le_refl _, Nat.zero_le _⟩
  · injection h' with _ _ h3
    subst h3
    exact ⟨hnc, hcm⟩

theorem own_grown {w w' : World} {base e size n p : Nat} {v : Value} {cs : List Value} (h : w.ownsRow base e size v n cs) (hg : w.grownBy w' (some p)) (hp : p < base) : w'.ownsRow base e size v n cs :=
  h.kept hg (by
    rcases hv : v.ownBlock with _ | b
    · exact .inl rfl
    · right
      intro e
      injection e with e
      have := (h.lt b hv).1
      omega)
/-- The call returns a list of N structs at most in new memory; the cursor is d bytes further at most. -/
def RetCL (E N p : Nat) (u : Cu) (k d : Nat) (W : World) : Ending → World → Prop := fun e w' => ∃ v xs k', e = .returned v ∧ w'.ownsRow W.heap.size E 5 v xs.length (cells5 xs) ∧ xs.length ≤ N ∧ k' ≤ k + d ∧ CurB w' p u k' ∧ W.grownBy w' (some p)
structure LRel (W : World) (E p : Nat) (u : Cu) (xs : List R5) (v : Value) (k : Nat) (wr : World) : Prop where
  own : wr.ownsRow W.heap.size E 5 v xs.length (cells5 xs)
  cur : CurB wr p u k
  gr : W.grownBy wr (some p)
theorem LRel.call {W wr w1 : World} {E p k k1 : Nat} {u : Cu} {xs : List R5} {v : Value} (h : LRel W E p u xs v k wr) (hp : p < W.heap.size) (hc : CurB w1 p u k1) (hg : wr.grownBy w1 (some p)) : LRel W E p u xs v k1 w1 :=
  ⟨own_grown h.own hg hp, hc, grown_trans h.gr hg⟩
theorem LRel.sz {W wr : World} {E p k : Nat} {u : Cu} {xs : List R5} {v : Value} (h : LRel W E p u xs v k wr) : W.heap.size ≤ wr.heap.size := h.gr.size
theorem LRel.below {W wr w1 : World} {E p k : Nat} {u : Cu} {xs : List R5} {v : Value} (h : LRel W E p u xs v k wr) (hb : Below wr.heap.size wr w1) : LRel W E p u xs v k w1 :=
  ⟨own_below h.own hb, h.cur.grown hb, grown_trans h.gr (grown_below hb)⟩
/-- Another list in the place of the old one. -/
theorem LRel.new {W wr w1 : World} {E p k : Nat} {u : Cu} {xs ys : List R5} {v v' : Value} (h : LRel W E p u xs v k wr) (ho : w1.ownsRow wr.heap.size E 5 v' ys.length (cells5 ys)) (hb : Below wr.heap.size wr w1) : LRel W E p u ys v' k w1 :=
  ⟨own_mono ho h.sz, h.cur.grown hb, grown_trans h.gr (grown_below hb)⟩
/-- One more behind the list. -/
theorem LRel.push {W wr w1 w2 : World} {E p k : Nat} {u : Cu} {xs : List R5} {x : R5} {v v' : Value} (h : LRel W E p u xs v k wr) (hp : p < W.heap.size) (hb : Below wr.heap.size wr w1) (ho : w2.ownsRow W.heap.size E 5 v' (xs.length + 1) (cells5 xs ++ x.cells)) (hg : w1.grownBy w2 v.ownBlock) : LRel W E p u (xs ++ [x]) v' k w2 := by
  have h1 := h.below hb
  have e : cells5 (xs ++ [x]) = cells5 xs ++ x.cells := by rw [cells5_append, cells5_cons]; simp [cells5_nil]
  have hlo : ∀ b, v.ownBlock = some b → W.heap.size ≤ b := fun b hv => (h1.own.lt b hv).1
  refine ⟨by rw [e, List.length_append]; exact ho, ?_, ?_⟩
  · obtain ⟨⟨s, K⟩, r, f, b, l⟩ := h1.cur
    exact ⟨⟨s, K.grown hg (fun e => by have := hlo p e.symm; omega)⟩, rdU r f hg (fun b hb => by have := hlo b hb; omega), f, b, l⟩
  · exact ⟨hg.os.trans h1.gr.os, hg.tape.trans h1.gr.tape, hg.output.trans h1.gr.output, Nat.le_trans h1.gr.size hg.size, fun b hb hne => (hg.block b (Nat.lt_of_lt_of_le hb h1.gr.size) (fun e => by have := hlo b e.symm; omega)).trans (h1.gr.block b hb hne)⟩

set_option maxRecDepth 20000 in
set_option maxHeartbeats 4000000 in
theorem treaties_any (p k : Nat) (u : Cu) (w : World) (h : CurB w p u k) (hk : k ≤ 700000) :
    Calls Tryd.prog 27 #[.pointer (some ⟨p, 0, none⟩)] w (RetCL 44 22 p u k 200 w) := by
  have PK := Lib.hid (fun k m w h hk hm hm2 => pick_any p k m u w h hk hm hm2)
  have TR := Lib.hid (fun k w h hk => treaty_any p k u w h hk)
  have SG := Lib.hid (fun A n c xs x w hn h h20 hc hcm => specSignTreaty_any A n c xs x w hn h h20 hc hcm)
  have HC := Lib.hid h
  have hp := h.lt
  clear h
  go_enter Tryd.func27, Tryd.ntmps27
  go_wp2_with fail
  refine (PK.out k 11 _ (HC.out.alloc _) (by omega) (by decide) (by decide)).mono ?_
  rintro e w1 ⟨v1, k1, rfl, ⟨r1, rfl, a1, b1⟩, hk1, hc, hg⟩
  obtain ⟨m, rfl⟩ : ∃ m : Nat, r1 = m := ⟨r1.toNat, by omega⟩
  have hm : m ≤ 10 := by omega
  have HL0 : Hid (LRel w 44 p u [] (.slice (some ⟨w.heap.size, 0, none⟩) 0 0) k1 w1) := Lib.hid (LRel.call (wr := w.alloc (.cells #[] 44)) (k := k) ⟨own_empty w _ _ _ (Nat.le_refl _), HC.out.alloc _, World.grownBy_alloc w _ _⟩ hp hc hg)
  clear a1 b1 hc hg HC
  go_wp2_with fail
  go_loopw [3, 4, 5, 6] (fun v i _ _ wr => ∃ (j : Nat) (xs : List R5) (kk : Nat), i = .int .i64 j ∧ j ≤ m ∧ xs.length ≤ 20 ∧ kk + 14 * j ≤ k1 + 14 * m ∧ LRel w 44 p u xs v kk wr) (fun _ i _ _ _ => (intOf i).toNat)
  case atStart => exact ⟨m, [], k1, rfl, by omega, by simp, by omega, HL0.out⟩
  case round =>
    obtain ⟨j, xs, kk, rfl, hj, hx20, hkk, hL⟩ := hrel
    obtain ⟨A, c, rfl⟩ := own_form hL.own
    have HL := Lib.hid hL
    clear hL HL0
    by_cases hj0 : 0 < j
    · have hj0' : (0 : Int) < (j : Int) := by omega
      go_wp2_with fail
      refine (TR.out kk _ HL.out.cur (by omega)).mono ?_
      rintro e w2 ⟨v2, k2, rfl, ⟨x, rfl⟩, hk2, hc, hg⟩
      have HL2 := Lib.hid (HL.out.call hp hc hg)
      clear hc hg HL
      go_wp2_with fail
      refine (SG.out A xs.length c xs x _ rfl (Rd.of_own HL2.out.own) (by omega) (own_capS HL2.out.own).1 (own_capS HL2.out.own).2).mono ?_
      rintro e w3 ⟨v3, rfl, o3, b3⟩
      obtain ⟨ok, hok⟩ : ∃ ok, ok = sgB xs x := ⟨_, rfl⟩
      rw [← hok]
      have hsl := sg_len xs x
      have HN := Lib.hid (HL2.out.new o3 b3)
      have HO := Lib.hid (HL2.out.below b3)
      clear o3 b3 HL2 hok
      cases ok with
      | true =>
        go_wp2
        go_roundw
        case rel =>
          exact ⟨j - 1, _, k2, by go_num, by omega, hsl, by omega, HN.out⟩
        case measure => simp [intOf]; omega
      | false =>
        go_wp2
        go_roundw
        case rel =>
          exact ⟨j - 1, xs, k2, by go_num, by omega, hx20, by omega, HO.out⟩
        case measure => simp [intOf]; omega
    · obtain rfl : j = 0 := by omega
      go_wp2_with fail
      refine (PK.out kk 32 _ HL.out.cur (by omega) (by decide) (by decide)).mono ?_
      rintro e w4 ⟨v4, k4, rfl, ⟨r4, rfl, a4, b4⟩, hk4, hc, hg⟩
      have HL4 := Lib.hid (HL.out.call hp hc hg)
      clear hc hg HL a4 b4
      by_cases h0 : r4 = 0
      · subst h0
        go_wp2_with fail
        refine (TR.out k4 _ HL4.out.cur (by omega)).mono ?_
        rintro e w5 ⟨v5, k5, rfl, ⟨x, rfl⟩, hk5, hc, hg⟩
        have HL5 := Lib.hid (HL4.out.call hp hc hg)
        clear hc hg HL4
        have HO := Lib.hid ((HL5.out.below ((Below.refl _ _).alloc (Nat.le_refl _) (.cells #[.int .i64 x.a, .int .i64 x.b, .int .i64 x.c, .int .i64 x.d, .int .i64 x.e] 44))).own)
        have HX : Hid (Rd (w5.alloc (.cells #[.int .i64 x.a, .int .i64 x.b, .int .i64 x.c, .int .i64 x.d, .int .i64 x.e] 44)) (some ⟨w5.heap.size, 0, none⟩) x.cells) := Lib.hid (rd_new #[.int .i64 x.a, .int .i64 x.b, .int .i64 x.c, .int .i64 x.d, .int .i64 x.e] 44 rfl)
        have hbs : w.heap.size ≤ (w5.alloc (.cells #[.int .i64 x.a, .int .i64 x.b, .int .i64 x.c, .int .i64 x.d, .int .i64 x.e] 44)).heap.size := by have := HL5.out.sz; simp; omega
        go_wp2_with (at_builtin; go_must (refine wpList_app _ rfl (.tmp 27) (.tmp 30) 24 rfl w.heap.size 44 _ 5 40 Tryd.underlying24 info44 rfl (by omega) _ _ _ rfl HO.out _ 1 1 x.cells rfl rfl HX.out (oneCell_x x) (by unfold maxLen; omega) (by omega) hbs ?_); intro v6 w6 o6 g6 d6; refine Hid.out ?_)
        have HLf := Lib.hid (HL5.out.push (x := x) hp ((Below.refl _ _).alloc (Nat.le_refl _) _) o6 g6)
        clear o6 g6 d6 HO HX hbs
        refine Lib.hid ?_
        go_wp2
        go_ret
        exact ⟨_, _, k5, rfl, HLf.out.own, by simp; omega, by omega, HLf.out.cur, HLf.out.gr⟩
      · by_cases h1 : r4 = 1
        · subst h1
          go_wp2_with fail
          go_loopw [3] (fun v wr => ∃ (ys : List R5) (kq : Nat), ys.length ≤ 21 ∧ kq + 2 * (22 - ys.length) ≤ k4 + 44 ∧ LRel w 44 p u ys v kq wr) (fun v _ => 30 - (match v with | .slice _ n _ => n | _ => 0))
          case atStart => exact ⟨xs, k4, by omega, by omega, HL4.out⟩
          case round =>
            obtain ⟨ys, kq, hy21, hkq, hL⟩ := hrel
            obtain ⟨A2, c2, rfl⟩ := own_form hL.own
            have HL := Lib.hid hL
            clear hL HL4
            go_wp2_with fail
            refine (PK.out kq 2 _ HL.out.cur (by omega) (by decide) (by decide)).mono ?_
            rintro e w5 ⟨v5, k5, rfl, ⟨r5, rfl, a5, b5⟩, hk5, hc, hg⟩
            have HL5 := Lib.hid (HL.out.call hp hc hg)
            clear hc hg HL
            have hw1 : IntKind.i64.wrap (20 + r5) = 20 + r5 := IntWalk.i64_in _ (by omega)
            have hw2 : IntKind.i64.wrap (10 * (ys.length : Int)) = 10 * (ys.length : Int) := IntWalk.i64_in _ (by omega)
            by_cases hq : (ys.length : Int) < 20 + r5
            · have hy20 : ys.length ≤ 20 := by omega
              have HO := Lib.hid ((HL5.out.below ((Below.refl _ _).alloc (Nat.le_refl _) (.cells #[.int .i64 7, .int .i64 8, .int .i64 (10 * (ys.length : Int)), .int .i64 (10 * (ys.length : Int)), .int .i64 5] 44))).own)
              have HX : Hid (Rd (w5.alloc (.cells #[.int .i64 7, .int .i64 8, .int .i64 (10 * (ys.length : Int)), .int .i64 (10 * (ys.length : Int)), .int .i64 5] 44)) (some ⟨w5.heap.size, 0, none⟩) (⟨7, 8, 10 * (ys.length : Int), 10 * (ys.length : Int), 5⟩ : R5).cells) := Lib.hid (rd_new #[.int .i64 7, .int .i64 8, .int .i64 (10 * (ys.length : Int)), .int .i64 (10 * (ys.length : Int)), .int .i64 5] 44 rfl)
              have hbs : w.heap.size ≤ (w5.alloc (.cells #[.int .i64 7, .int .i64 8, .int .i64 (10 * (ys.length : Int)), .int .i64 (10 * (ys.length : Int)), .int .i64 5] 44)).heap.size := by have := HL5.out.sz; simp; omega
              go_wp2_with (at_builtin; go_must (refine wpList_app _ rfl (.tmp 40) (.tmp 48) 24 rfl w.heap.size 44 _ 5 40 Tryd.underlying24 info44 rfl (by omega) _ _ _ rfl HO.out _ 1 1 (⟨7, 8, 10 * (ys.length : Int), 10 * (ys.length : Int), 5⟩ : R5).cells rfl rfl HX.out (oneCell_x (⟨7, 8, 10 * (ys.length : Int), 10 * (ys.length : Int), 5⟩ : R5)) (by unfold maxLen; omega) (by omega) hbs ?_); intro v6 w6 o6 g6 d6; refine Hid.out ?_)
              have HLf := Lib.hid (HL5.out.push (x := (⟨7, 8, 10 * (ys.length : Int), 10 * (ys.length : Int), 5⟩ : R5)) hp ((Below.refl _ _).alloc (Nat.le_refl _) _) o6 g6)
              clear o6 g6 d6 HO HX hbs
              refine Lib.hid ?_
              obtain ⟨A6, c6, rfl⟩ : ∃ A6 c6, v6 = .slice A6 (ys ++ [(⟨7, 8, 10 * (ys.length : Int), 10 * (ys.length : Int), 5⟩ : R5)]).length c6 := by obtain ⟨A6, c6, e⟩ := own_form HLf.out.own; exact ⟨A6, c6, e⟩
              go_wp2
              go_roundw
              case rel =>
                exact ⟨_, k5, by simp; omega, by simp; omega, HLf.out⟩
              case measure => simp; omega
            · have hq2 : 20 + r5 ≤ (ys.length : Int) := by omega
              go_wp2
              go_ret
              exact ⟨_, _, k5, rfl, HL5.out.own, by omega, by omega, HL5.out.cur, HL5.out.gr⟩
        · have h0d : (r4 == 0) = false := by simp [h0]
          have h1d : (r4 == 1) = false := by simp [h1]
          go_wp2
          go_ret
          exact ⟨_, _, k4, rfl, HL4.out.own, by omega, by omega, HL4.out.cur, HL4.out.gr⟩

end Go.Proofs.YtnaehlglpaadhaaDoor
