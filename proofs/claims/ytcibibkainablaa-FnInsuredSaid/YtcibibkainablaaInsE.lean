/- What each insurance pays: the program fills a row, the reference appends; both lists are one. -/
import Derived.Test.YtcibibkainablaaInsD
namespace Go.Proofs.Ytcibibkainablaa
set_option linter.unusedVariables false
set_option linter.unusedSimpArgs false
open Go.RowKit

theorem info3 : (Try.prog.info? 3).map (fun i => (i.zero, i.size, i.bytes)) = some (some (.int .i64 0), 1, 8) := by kernel_rfl

def minV (a b : Int) : Int := if a < b then a else b
def partF (item day p cv : Int) (x : R5) : Int := if holdB item day x then x.d * p / cv else 0
def partsV (xs : List R5) (item day worth : Int) : List Int := if paidB xs item day worth then xs.map (partF item day (minV worth (cov xs item day)) (cov xs item day)) else []
theorem parts_len (xs : List R5) (item day worth : Int) : (partsV xs item day worth).length ≤ 12 := by
  unfold partsV
  split
  · rename_i h
    simp only [paidB, covB, Bool.and_eq_true] at h
    simpa using insL_len h.1.1
  · simp
/-- A list that a loop fills or appends to, element by element. -/
def MapRel (W : World) (E : Nat) (f : R5 → Int) (xs : List R5) (k : Nat) (v : Value) (wr : World) : Prop :=
  wr.ownsRow W.heap.size E 1 v k (cells1 ((xs.take k).map f)) ∧ Below W.heap.size W wr
theorem MapRel.app {W wr w1 w2 : World} {E : Nat} {f : R5 → Int} {xs : List R5} {k : Nat} {v v' : Value} {x : R5} {z : Int} (h : MapRel W E f xs k v wr) (hx : xs[k]? = some x) (hz : z = f x) (hb : Below W.heap.size wr w1)
    (ho1 : w1.ownsRow W.heap.size E 1 v k (cells1 ((xs.take k).map f))) (ho : w2.ownsRow W.heap.size E 1 v' (k + 1) (cells1 ((xs.take k).map f) ++ [.int .i64 z])) (hg : w1.grownBy w2 v.ownBlock) : MapRel W E f xs (k + 1) v' w2 := by
  obtain ⟨_, hB⟩ := h
  refine ⟨?_, (hB.trans hb).trans (below_app ho1 hg (hB.trans hb).size (Nat.le_refl _))⟩
  rw [List.take_add_one, hx, List.map_append, cells1_append]
  subst hz
  exact ho
/-- A made row that a loop fills. -/
def FillRel (W : World) (E g n : Nat) (f : R5 → Int) (xs : List R5) (k : Nat) (wr : World) : Prop :=
  wr.ownsRow W.heap.size E 1 (.slice (some ⟨g, 0, none⟩) n n) n (cells1 ((xs.take k).map f ++ List.replicate (n - k) 0)) ∧ Below W.heap.size W wr
theorem FillRel.zero {W w1 : World} {E n : Nat} {f : R5 → Int} {xs : List R5} (hb : Below W.heap.size W w1) (hn : n ≤ 1048576) : FillRel W E w1.heap.size n f xs 0 (w1.alloc (.cells (madeCells (Value.cells (.int .i64 0)) (n * 1)) E)) := by
  refine ⟨?_, hb.alloc hb.size _⟩
  have h := own_made w1 W.heap.size E 1 n (Value.cells (.int .i64 0)) hb.size (by unfold maxLen; omega)
  have e : (madeCells (Value.cells (.int .i64 0)) (n * 1)).toList = cells1 ((xs.take 0).map f ++ List.replicate (n - 0) 0) := by
    rw [show Value.cells (.int .i64 0) = #[.int .i64 0] from rfl, toList_madeCells_one]
    simp [cells1]
  rw [e] at h
  exact h
theorem FillRel.skip {W wr w1 : World} {E g n : Nat} {f : R5 → Int} {xs : List R5} {k : Nat} {x : R5} (h : FillRel W E g n f xs k wr) (hn : xs.length = n) (hx : xs[k]? = some x) (hf : f x = 0) (hb : Below wr.heap.size wr w1) : FillRel W E g n f xs (k + 1) w1 := by
  obtain ⟨ho, hB⟩ := h
  have hk : k < n := by have := (List.getElem?_eq_some_iff.1 hx).1; omega
  refine ⟨?_, hB.trans (hb.mono hB.size)⟩
  have := own_below ho hb
  rw [List.take_add_one, hx, List.map_append]
  rw [show n - k = (n - (k + 1)) + 1 by omega, List.replicate_succ] at this
  simpa [hf] using this
theorem FillRel.set {W wr w1 : World} {E g n : Nat} {f : R5 → Int} {xs : List R5} {k : Nat} {x : R5} {z : Int} (h : FillRel W E g n f xs k wr) (hn : xs.length = n) (hx : xs[k]? = some x) (hf : z = f x) (hb : Below wr.heap.size wr w1) (hg : W.heap.size ≤ g) : FillRel W E g n f xs (k + 1) (w1.setCell ⟨g, k, none⟩ (.int .i64 z)) := by
  obtain ⟨ho, hB⟩ := h
  have hk : k < n := by have := (List.getElem?_eq_some_iff.1 hx).1; omega
  obtain ⟨h1, h2⟩ := (own_below ho hb).stored k (.int .i64 z)
  refine ⟨?_, (hB.trans (hb.mono hB.size)).setCell hg _⟩
  have hl : (cells1 ((xs.take k).map f)).length = k := by rw [length_cells1, List.length_map, List.length_take]; omega
  rw [List.take_add_one, hx, List.map_append, show n - k = (n - (k + 1)) + 1 by omega] at *
  rw [List.replicate_succ, cells1_append, List.set_append_right _ _ (by omega), hl, Nat.sub_self] at h1
  subst hf
  rw [cells1_append, cells1_append, List.append_assoc]
  exact h1
theorem FillRel.done {W wr : World} {E g n : Nat} {f : R5 → Int} {xs : List R5} {k : Nat} (h : FillRel W E g n f xs k wr) (hn : xs.length = n) (hk : n ≤ k) : wr.ownsRow W.heap.size E 1 (.slice (some ⟨g, 0, none⟩) n n) n (cells1 (xs.map f)) := by
  have := h.1
  rw [List.take_of_length_le (by omega), show n - k = 0 by omega] at this
  simpa using this

theorem part_bd {xs : List R5} (hv : insL xs = true) {x : R5} (hx : x ∈ xs) {item day p : Int} (hp : 0 ≤ p ∧ p ≤ 10000000) (hh : holdB item day x = true) : (0 ≤ x.d * p ∧ x.d * p ≤ 100000000000000) ∧ 1 ≤ cov xs item day := by
  have hb := insB_bd (insL_mem hv hx)
  have h1 : covF item day x = x.d := by rw [covF, if_pos hh]
  have := sumF_ge (f := covF item day) (xs := xs) (fun y hy => (covF_bd (insL_mem hv hy) item day).1) hx
  have a1 : 0 ≤ x.d * p := Int.mul_nonneg (by omega) (by omega)
  have a2 : x.d * p ≤ 10000000 * 10000000 := Int.mul_le_mul (by omega) (by omega) (by omega) (by omega)
  unfold cov
  omega

set_option maxHeartbeats 2000000 in
theorem specPartsPaid_any (A : Option Addr) (n c : Nat) (xs : List R5) (item day worth : Int) (w : World) (hn : xs.length = n) (hA : Rd w A (cells5 xs)) (h20 : n ≤ 1048576) :
    Calls Try.prog 13 #[.slice A n c, .int .i64 item, .int .i64 day, .int .i64 worth] w (RetOwnB 3 1 (partsV xs item day worth).length (cells1 (partsV xs item day worth)) (paidB xs item day worth) w) := by
  have HE := Lib.hid (own_empty w w.heap.size 3 1 (Nat.le_refl _))
  have C1 := Lib.hid (fun w => specPaidFor_any A n c xs item day worth w hn)
  cases hp : paidB xs item day worth with
  | false =>
    rw [hp] at C1
    rw [show partsV xs item day worth = [] by simp [partsV, hp]]
    obtain ⟨q, hq⟩ : ∃ q, q = paidV xs item day worth := ⟨_, rfl⟩
    rw [← hq] at C1
    clear hp hq
    go_enter Try.func13, Try.ntmps13
    go_wp2_with fail
    refine (C1.out _ (hA.alloc _) h20).mono ?_
    rintro e w1 ⟨rfl, b1⟩
    go_wp2
    go_ret2
    exact ⟨_, rfl, own_below HE.out b1, ((Below.refl _ _).alloc (Nat.le_refl _) _).trans (b1.mono (by simp))⟩
  | true =>
    rw [hp] at C1
    have hp' := hp
    simp only [paidB, covB, Bool.and_eq_true] at hp'
    have hv := hp'.1.1
    obtain ⟨wo1, wo2⟩ := inR_true.1 hp'.2
    have h12 : n ≤ 12 := by have := insL_len hv; omega
    have hcb := cov_bd hv item day
    obtain ⟨cv, hcv⟩ : ∃ cv, cv = cov xs item day := ⟨_, rfl⟩
    have hpv : paidV xs item day worth = minV worth cv := by rw [paidV, if_pos hp, minV, hcv]
    have hparts : partsV xs item day worth = xs.map (partF item day (minV worth cv) cv) := by rw [partsV, if_pos hp, hcv]
    rw [hpv] at C1
    rw [hparts]
    obtain ⟨p, hpm⟩ : ∃ p, p = minV worth cv := ⟨_, rfl⟩
    rw [← hpm] at C1 ⊢
    have hpb : 0 ≤ p ∧ p ≤ 10000000 := by rw [hpm, minV]; split <;> omega
    have HV := Lib.hid hv
    have HCV := Lib.hid hcv
    have C2 := Lib.hid (fun w h => l26Cover_any A n c xs item day w hn h hv)
    rw [← hcv] at C2
    rw [← hcv] at hcb
    clear hp hp' hv hpv hparts hpm hcv
    go_enter Try.func13, Try.ntmps13
    go_wp2_with fail
    refine (C1.out _ (hA.alloc _) h20).mono ?_
    rintro e w1 ⟨rfl, b1⟩
    have hbw := ((Below.refl w.heap.size w).alloc (Nat.le_refl _) _).trans (b1.mono (by simp))
    have HE1 := Lib.hid (own_below HE.out b1)
    clear b1
    go_wp2_with fail
    refine (C2.out _ (hA.below hbw)).mono ?_
    rintro e w2 ⟨rfl, b2⟩
    have HE2 := Lib.hid (own_below HE1.out b2)
    have hbw2 := hbw.trans (b2.mono hbw.size)
    clear b2 hbw HE1 HE
    go_wp2_with fail
    go_loopw [10, 14, 15] (fun v i _ wr => ∃ (k : Nat), k ≤ n ∧ i = .int .i64 k ∧ MapRel w 3 (partF item day p cv) xs k v wr) (fun _ i _ _ => n - (intOf i).toNat)
    case atStart => exact ⟨0, by omega, rfl, HE2.out, hbw2⟩
    case round =>
      obtain ⟨k, hk, rfl, hids⟩ := hrel
      have HI := Lib.hid hids
      obtain ⟨ho, hb⟩ := hids
      by_cases hlt : k < n
      · obtain ⟨x, hxk⟩ : ∃ x, xs[k]? = some x := ⟨xs[k], List.getElem?_eq_getElem (by omega)⟩
        obtain ⟨g, o, hAe, hg, c0, c1, c2, c3, c4⟩ := (hA.below hb).at5 hxk
        subst hAe
        have HX := Lib.hid hxk
        have HO := Lib.hid ho
        clear hxk ho hA HE2
        go_wp2_with fail
        refine (l26Holds_any x item day _).mono ?_
        rintro e w3 ⟨rfl, b3⟩
        obtain ⟨bc, bf⟩ := bcell b3
        have HO3 := Lib.hid (own_below HO.out b3)
        have HO4 := Lib.hid (fun o1 => HO3.out.alloc o1)
        have hb3 := b3.mono hb.size
        have hs3 := (hb.trans hb3).size
        cases hq : holdB item day x with
        | true =>
          have HQ := Lib.hid hq
          obtain ⟨⟨p1, p2⟩, p3⟩ := part_bd HV.out (List.mem_of_getElem? HX.out) hpb hq
          rw [← HCV.out] at p3
          clear hq
          go_wp2_with (at_builtin; go_must (refine wpList_app _ rfl (.tmp 54) (.tmp 56) 37 rfl w.heap.size 3 _ 1 8 Try.underlying37 info3 rfl (by omega) _ _ _ rfl (HO4.out _) _ 1 1 [.int .i64 (x.d * p / cv)] rfl rfl (rd_new #[.int .i64 (x.d * p / cv)] 3 (by simp)) (oneCell_ints [x.d * p / cv]) (by unfold maxLen; omega) (by omega) (by simp; omega) ?_); intro v' w' o' g' d')
          have R2 := Lib.hid (HI.out.app HX.out (show x.d * p / cv = partF item day p cv x by rw [partF, if_pos HQ.out]) (hb3.trans ((Below.refl _ _).alloc hs3 _)) (HO4.out _) o' g')
          go_roundw
          case rel => exact ⟨k + 1, by omega, by go_num, R2.out⟩
          case measure => simp [intOf]; omega
        | false =>
          have HQ := Lib.hid hq
          clear hq
          go_wp2_with (at_builtin; go_must (refine wpList_app _ rfl (.tmp 54) (.tmp 56) 37 rfl w.heap.size 3 _ 1 8 Try.underlying37 info3 rfl (by omega) _ _ _ rfl (HO4.out _) _ 1 1 [.int .i64 0] rfl rfl (rd_new #[.int .i64 0] 3 (by simp)) (oneCell_ints [0]) (by unfold maxLen; omega) (by omega) (by simp; omega) ?_); intro v' w' o' g' d')
          have R2 := Lib.hid (HI.out.app HX.out (show 0 = partF item day p cv x by rw [partF, if_neg (by rw [HQ.out]; simp)]) (hb3.trans ((Below.refl _ _).alloc hs3 _)) (HO4.out _) o' g')
          go_roundw
          case rel => exact ⟨k + 1, by omega, by go_num, R2.out⟩
          case measure => simp [intOf]; omega
      · go_wp2
        go_ret2
        obtain ⟨ho', hB⟩ := HI.out
        rw [List.take_of_length_le (by omega)] at ho'
        have hkn : k = n := by omega
        subst hkn
        exact ⟨_, rfl, by rw [List.length_map, hn]; exact ho', hB⟩

set_option maxHeartbeats 2000000 in
theorem implPartsPaid_any (A : Option Addr) (n c : Nat) (xs : List R5) (item day worth : Int) (w : World) (hn : xs.length = n) (hA : Rd w A (cells5 xs)) (h20 : n ≤ 1048576) :
    Calls Try.prog 12 #[.slice A n c, .int .i64 item, .int .i64 day, .int .i64 worth] w (RetOwnB 3 1 (partsV xs item day worth).length (cells1 (partsV xs item day worth)) (paidB xs item day worth) w) := by
  have hmk := fun W => run_make_info (P := Try.prog) 37 3 _ 1 8 Try.underlying37 info3 n (by omega) (by omega) W
  go_enter Try.func12, Try.ntmps12
  go_wp2_with fail
  refine (areInsured_any A n c xs _ hn hA h20).mono ?_
  rintro e w1 ⟨rfl, b1⟩
  have hA1 := Lib.hid (hA.below b1)
  go_wp2_with (first
    | (go_at_call 37; refine (isItem_any _ _).mono ?_; rintro e w' ⟨rfl, rfl⟩)
    | (go_at_call 38; refine (isDay_any _ _).mono ?_; rintro e w' ⟨rfl, rfl⟩)
    | (go_at_call 41; refine (isWorth_any _ _).mono ?_; rintro e w' ⟨rfl, rfl⟩)
    | fail)
  any_goals (go_ret2; exact ⟨.slice none 0 0, by rw [show paidB xs item day worth = false by go_light; grind [paidB, covB]]; rfl, by rw [show partsV xs item day worth = [] by rw [partsV, if_neg]; go_light; grind [paidB, covB]]; exact World.ownsRow_nil _ _ _ _, b1⟩)
  have hv : insL xs = true := by assumption
  have hi : inR item 1 999 = true := by assumption
  have hd : inR day 0 4000 = true := by assumption
  have hw : inR worth 1 10000000 = true := by go_light; grind
  have hp : paidB xs item day worth = true := by simp [paidB, covB, hv, hi, hd, hw]
  obtain ⟨wo1, wo2⟩ := inR_true.1 hw
  have h12 : n ≤ 12 := by have := insL_len hv; omega
  have hcb := cov_bd hv item day
  obtain ⟨cv, hcv⟩ : ∃ cv, cv = cov xs item day := ⟨_, rfl⟩
  have hparts : partsV xs item day worth = xs.map (partF item day (minV worth cv) cv) := by rw [partsV, if_pos hp, hcv]
  have C2 := Lib.hid (fun w h => coverOn_any A n c xs item day w hn h hv)
  rw [← hcv] at C2 hcb
  have HV := Lib.hid hv
  have HP := Lib.hid hp
  have HPA := Lib.hid hparts
  have HCV := Lib.hid hcv
  simp only [hw, hd, hi, hv, Bool.not_true]
  have HA0 := Lib.hid hA
  clear hv hi hd hw hp hparts hcv hA
  refine (C2.out _ hA1.out).mono ?_
  rintro e w2 ⟨rfl, b2⟩
  have hb2 := b1.trans (b2.mono b1.size)
  have hA2 := hA1.out.below b2
  clear hA1 b2
  go_wp2_with fail
  go_loopw [41, 13] (fun i _ wr => ∃ (k : Nat), k ≤ n ∧ i = .int .i64 k ∧ FillRel w 3 w2.heap.size n (partF item day (minV worth cv) cv) xs k wr) (fun i _ _ => n - (intOf i).toNat)
  case atStart => exact ⟨0, by omega, rfl, by have := FillRel.zero (E := 3) (f := partF item day (minV worth cv) cv) (xs := xs) hb2 h20; rw [Nat.mul_one] at this; exact this⟩
  case round =>
    obtain ⟨k, hk, rfl, hrel⟩ := hrel
    have HR := Lib.hid hrel
    obtain ⟨ho, hb⟩ := hrel
    by_cases hlt : k < n
    · obtain ⟨x, hxk⟩ : ∃ x, xs[k]? = some x := ⟨xs[k], List.getElem?_eq_getElem (by omega)⟩
      obtain ⟨g, o, hAe, hg, c0, c1, c2, c3, c4⟩ := (HA0.out.below hb).at5 hxk
      have HX := Lib.hid hxk
      have HO := Lib.hid ho
      subst hAe
      clear hxk ho hA2
      go_wp2_with fail
      refine (covers_any x item day _).mono ?_
      rintro e w3 ⟨rfl, b3⟩
      have hb3 : Below wr.heap.size wr w3 := ((Below.refl _ _).alloc (Nat.le_refl _) _).trans (b3.mono (by simp))
      obtain ⟨bc, bf⟩ := bcell b3
      cases hq : holdB item day x with
      | true =>
        have HQ := Lib.hid hq
        have hpb : 0 ≤ minV worth cv ∧ minV worth cv ≤ 10000000 := by unfold minV; split <;> omega
        obtain ⟨⟨p1, p2⟩, p3⟩ := part_bd HV.out (List.mem_of_getElem? HX.out) hpb hq
        rw [← HCV.out] at p3
        have hth := own_there (own_below HO.out hb3) k 1 (by omega)
        obtain ⟨⟨v0, d0⟩, f0⟩ := (hth 0 (by omega)).imp_left Option.isSome_iff_exists.1
        simp only [Nat.add_zero] at d0 f0
        clear hth hq
        have hz : ∀ z, z = x.d * minV worth cv / cv → z = partF item day (minV worth cv) cv x := fun z h => by rw [h, partF, if_pos HQ.out]
        have HZ := Lib.hid hz
        clear hz
        by_cases hm : worth < cv
        · have e : minV worth cv = worth := by rw [minV, if_pos hm]
          have HE := Lib.hid e
          rw [e] at p1 p2
          clear e hpb
          go_wp2
          go_roundw
          case rel => exact ⟨k + 1, by omega, by go_num, HR.out.set hn HX.out (HZ.out _ (by rw [HE.out])) hb3 hb2.size⟩
          case measure => simp [intOf]; omega
        · have e : minV worth cv = cv := by rw [minV, if_neg hm]
          have HE := Lib.hid e
          rw [e] at p1 p2
          clear e hpb
          by_cases hm2 : cv < worth
          · go_wp2
            go_roundw
            case rel => exact ⟨k + 1, by omega, by go_num, HR.out.set hn HX.out (HZ.out _ (by rw [HE.out])) hb3 hb2.size⟩
            case measure => simp [intOf]; omega
          · obtain rfl : cv = worth := by omega
            go_wp2
            go_roundw
            case rel => exact ⟨k + 1, by omega, by go_num, HR.out.set hn HX.out (HZ.out _ (by rw [HE.out])) hb3 hb2.size⟩
            case measure => simp [intOf]; omega
      | false =>
        have HQ := Lib.hid hq
        clear hq
        go_wp2
        go_roundw
        case rel => exact ⟨k + 1, by omega, by go_num, HR.out.skip hn HX.out (by rw [partF, if_neg (by rw [HQ.out]; simp)]) hb3⟩
        case measure => simp [intOf]; omega
    · go_wp2
      go_ret2
      have hd := HR.out.done hn (by omega)
      exact ⟨.slice (some ⟨w2.heap.size, 0, none⟩) n n, by rw [HP.out]; rfl, by rw [HPA.out, List.length_map, hn]; exact hd, hb⟩
end Go.Proofs.Ytcibibkainablaa
