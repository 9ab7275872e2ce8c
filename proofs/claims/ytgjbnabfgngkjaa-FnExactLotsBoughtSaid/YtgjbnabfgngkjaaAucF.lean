/- The lots in a state, and the lots that a bidder bought: lists. -/
import Derived.Test.YtgjbnabfgngkjaaAucC
namespace Go.Proofs.Ytgjbnabfgngkjaa
open Go.RowKit

def pState (st : Int) (x : R5) : Bool := x.c == st
def inB (xs : List R5) (st : Int) : Bool := auc xs && inR st 0 3
def lotsInV (xs : List R5) (st : Int) : List Int := if inB xs st then idsOf (pState st) xs else []
theorem lotsIn_len (xs : List R5) (st : Int) : (lotsInV xs st).length ≤ 8 := by
  unfold lotsInV
  split
  · rename_i h
    simp only [inB, Bool.and_eq_true] at h
    exact Nat.le_trans (idsOf_len _ _) (auc_len h.1)
  · simp
theorem lotsIn_no {xs : List R5} {st : Int} (h : inB xs st = false) : lotsInV xs st = [] := by simp [lotsInV, h]
theorem lotsIn_yes {xs : List R5} {st : Int} (h : inB xs st = true) : lotsInV xs st = idsOf (pState st) xs := by simp [lotsInV, h]

set_option maxHeartbeats 1000000 in
theorem implLotsIn_any (A : Option Addr) (n c : Nat) (xs : List R5) (st : Int) (w : World) (hn : xs.length = n) (hA : Rd w A (cells5 xs)) (h20 : n ≤ 1048576) :
    Calls Try.prog 23 #[.slice A n c, .int .i64 st] w (RetOwnB 3 1 (lotsInV xs st).length (cells1 (lotsInV xs st)) (inB xs st) w) := by
  have C1 := Lib.hid (fun w => isAuction_any A n c xs w hn)
  have C2 := Lib.hid (fun w => inRange_any st 0 3 w)
  cases hv : auc xs with
  | false =>
    rw [hv] at C1
    have e : inB xs st = false := by simp [inB, hv]
    rw [lotsIn_no e, e]
    clear e hv
    go_enter Try.func23, Try.ntmps23
    go_wp2_with fail
    refine (C1.out _ hA h20).mono ?_
    rintro e w1 ⟨rfl, b1⟩
    go_wp2
    go_ret2
    exact ⟨_, rfl, World.ownsRow_nil _ _ _ _, b1⟩
  | true =>
    rw [hv] at C1
    cases hs : inR st 0 3 with
    | false =>
      rw [hs] at C2
      have e : inB xs st = false := by simp [inB, hs]
      rw [lotsIn_no e, e]
      clear e hv hs
      go_enter Try.func23, Try.ntmps23
      go_wp2_with fail
      refine (C1.out _ hA h20).mono ?_
      rintro e w1 ⟨rfl, b1⟩
      go_wp2_with fail
      refine (C2.out _).mono ?_
      rintro e w2 ⟨rfl, rfl⟩
      go_wp2
      go_ret2
      exact ⟨_, rfl, World.ownsRow_nil _ _ _ _, b1⟩
    | true =>
      rw [hs] at C2
      have h8 : n ≤ 8 := by have := auc_len hv; omega
      have e : inB xs st = true := by simp [inB, hv, hs]
      rw [lotsIn_yes e, e]
      clear e hv hs
      go_enter Try.func23, Try.ntmps23
      go_wp2_with fail
      refine (C1.out _ hA h20).mono ?_
      rintro e w1 ⟨rfl, b1⟩
      have hA1 := hA.below b1
      clear hA
      go_wp2_with fail
      refine (C2.out _).mono ?_
      rintro e w2 ⟨rfl, rfl⟩
      go_wp2_with fail
      go_loopw [6, 19, 8] (fun v i _ wr => ∃ (k : Nat), k ≤ n ∧ i = .int .i64 k ∧ IdRel w1 3 (pState st) xs k v wr) (fun _ i _ _ => n - (intOf i).toNat)
      case atStart => exact ⟨0, by omega, rfl, World.ownsRow_nil _ _ _ _, Below.refl _ _⟩
      case round =>
        obtain ⟨k, hk, rfl, hids⟩ := hrel
        have HI := Lib.hid hids
        obtain ⟨ho, hb⟩ := hids
        by_cases hlt : k < n
        · obtain ⟨x, hxk⟩ : ∃ x, xs[k]? = some x := ⟨xs[k], List.getElem?_eq_getElem (by omega)⟩
          obtain ⟨g, o, hAe, hg, c0, c1, c2, c3, c4⟩ := (hA1.below hb).at5 hxk
          subst hAe
          have HX := Lib.hid hxk
          have hlen := idsOf_take_len (pState st) xs k
          have HO1 := Lib.hid (fun o1 => ho.alloc o1)
          have HO2 := Lib.hid (fun o1 o2 => (ho.alloc o1).alloc o2)
          have HNE := Lib.hid (own_ne ho (Nat.le_refl _))
          clear hxk hA1 ho
          go_wp2_with (at_builtin; go_must (refine wpList_app _ rfl (.tmp 27) (.tmp 30) 31 rfl w1.heap.size 3 _ 1 8 Try.underlying31 info3 rfl (by omega) _ _ _ rfl (HO2.out _ _) _ 1 1 [.int .i64 x.a] rfl rfl (rd_new #[.int .i64 x.a] 3 (by simp)) (oneCell_ints [x.a]) (by unfold maxLen; omega) (by omega) (by have := hb.size; simp; omega) ?_); intro v' w' o' g' d'; have kc := app_keep g' (b := wr.heap.size) (by simp; omega) HNE.out)
          · have hp : (x.c == st) = true := by assumption
            have R2 := Lib.hid (HI.out.yes HX.out hp (((Below.refl _ _).alloc hb.size _).alloc (by have := hb.size; simp; omega) _) (HO2.out _ _) o' g')
            go_roundw
            case rel => exact ⟨k + 1, by omega, by go_num, R2.out⟩
            case measure => simp [intOf]; omega
          · have hp : (x.c == st) = false := by assumption
            have R2 := Lib.hid (fun o => HI.out.no HX.out hp ((Below.refl _ _).alloc hb.size o) (HO1.out o))
            go_roundw
            case rel => exact ⟨k + 1, by omega, by go_num, R2.out _⟩
            case measure => simp [intOf]; omega
        · go_wp2
          go_ret2
          obtain ⟨ho', hB⟩ := HI.out
          rw [List.take_of_length_le (by omega)] at ho'
          exact ⟨_, rfl, own_mono ho' b1.size, b1.trans (hB.mono b1.size)⟩

set_option maxHeartbeats 1000000 in
theorem specLotsIn_any (A : Option Addr) (n c : Nat) (xs : List R5) (st : Int) (w : World) (hn : xs.length = n) (hA : Rd w A (cells5 xs)) (h20 : n ≤ 1048576) :
    Calls Try.prog 22 #[.slice A n c, .int .i64 st] w (RetOwnB 3 1 (lotsInV xs st).length (cells1 (lotsInV xs st)) (inB xs st) w) := by
  have C1 := Lib.hid (fun w => l29Good_any A n c xs w hn)
  have C2 := Lib.hid (fun w => l1In_any st 0 3 w)
  have HE := Lib.hid (own_empty w w.heap.size 3 1 (Nat.le_refl _))
  cases hv : auc xs with
  | false =>
    rw [hv] at C1
    have e : inB xs st = false := by simp [inB, hv]
    rw [lotsIn_no e, e]
    clear e hv
    go_enter Try.func22, Try.ntmps22
    go_wp2_with fail
    refine (C1.out _ (hA.alloc _) h20).mono ?_
    rintro e w1 ⟨rfl, b1⟩
    go_wp2
    go_ret2
    exact ⟨_, rfl, own_below HE.out b1, ((Below.refl _ _).alloc (Nat.le_refl _) _).trans (b1.mono (by simp))⟩
  | true =>
    rw [hv] at C1
    cases hs : inR st 0 3 with
    | false =>
      rw [hs] at C2
      have e : inB xs st = false := by simp [inB, hs]
      rw [lotsIn_no e, e]
      clear e hv hs
      go_enter Try.func22, Try.ntmps22
      go_wp2_with fail
      refine (C1.out _ (hA.alloc _) h20).mono ?_
      rintro e w1 ⟨rfl, b1⟩
      go_wp2_with fail
      refine (C2.out _).mono ?_
      rintro e w2 ⟨rfl, rfl⟩
      go_wp2
      go_ret2
      exact ⟨_, rfl, own_below HE.out b1, ((Below.refl _ _).alloc (Nat.le_refl _) _).trans (b1.mono (by simp))⟩
    | true =>
      rw [hs] at C2
      have h8 : n ≤ 8 := by have := auc_len hv; omega
      have e : inB xs st = true := by simp [inB, hv, hs]
      rw [lotsIn_yes e, e]
      clear e hv hs
      go_enter Try.func22, Try.ntmps22
      go_wp2_with fail
      refine (C1.out _ (hA.alloc _) h20).mono ?_
      rintro e w1 ⟨rfl, b1⟩
      have hbw := ((Below.refl w.heap.size w).alloc (Nat.le_refl _) _).trans (b1.mono (by simp))
      have HE1 := Lib.hid (own_below HE.out b1)
      have hsz := hbw.size
      clear b1
      go_wp2_with fail
      refine (C2.out _).mono ?_
      rintro e w2 ⟨rfl, rfl⟩
      go_wp2_with fail
      go_loopw [6, 7] (fun v i wr => ∃ (k : Nat), k ≤ n ∧ i = .int .i64 k ∧ IdRel w 3 (pState st) xs k v wr) (fun _ i _ => n - (intOf i).toNat)
      case atStart => exact ⟨0, by omega, rfl, HE1.out, hbw⟩
      case round =>
        obtain ⟨k, hk, rfl, hids⟩ := hrel
        have HI := Lib.hid hids
        obtain ⟨ho, hb⟩ := hids
        by_cases hlt : k < n
        · obtain ⟨x, hxk⟩ : ∃ x, xs[k]? = some x := ⟨xs[k], List.getElem?_eq_getElem (by omega)⟩
          obtain ⟨g, o, hAe, hg, c0, c1, c2, c3, c4⟩ := (hA.below hb).at5 hxk
          subst hAe
          have HX := Lib.hid hxk
          have hlen := idsOf_take_len (pState st) xs k
          have HO1 := Lib.hid (fun o1 => ho.alloc o1)
          clear hxk hA ho
          go_wp2_with (at_builtin; go_must (refine wpList_app _ rfl (.tmp 31) (.tmp 37) 31 rfl w.heap.size 3 _ 1 8 Try.underlying31 info3 rfl (by omega) _ _ _ rfl (HO1.out _) _ 1 1 [.int .i64 x.a] rfl rfl (rd_new #[.int .i64 x.a] 3 (by simp)) (oneCell_ints [x.a]) (by unfold maxLen; omega) (by omega) (by have := hb.size; simp; omega) ?_); intro v' w' o' g' d')
          · have hp : (x.c == st) = true := by assumption
            have R2 := Lib.hid (HI.out.yes HX.out hp ((Below.refl _ _).alloc hb.size _) (HO1.out _) o' g')
            go_roundw
            case rel => exact ⟨k + 1, by omega, by go_num, R2.out⟩
            case measure => simp [intOf]; omega
          · have hp : (x.c == st) = false := by assumption
            have R2 := Lib.hid (HI.out.no HX.out hp (Below.refl _ _) HI.out.1)
            go_roundw
            case rel => exact ⟨k + 1, by omega, by go_num, R2.out⟩
            case measure => simp [intOf]; omega
        · go_wp2
          go_ret2
          obtain ⟨ho', hB⟩ := HI.out
          rw [List.take_of_length_le (by omega)] at ho'
          exact ⟨_, rfl, ho', hB⟩

def boB (xs : List R5) (b : Int) : Bool := auc xs && inR b 1 999
def boughtV (xs : List R5) (b : Int) : List Int := if boB xs b then idsOf (pSold b) xs else []
def boughtS (xs : List R5) (b : Int) : Int := if boB xs b then sumD (pSold b) xs else 0
theorem bought_len (xs : List R5) (b : Int) : (boughtV xs b).length ≤ 8 := by
  unfold boughtV
  split
  · rename_i h
    simp only [boB, Bool.and_eq_true] at h
    exact Nat.le_trans (idsOf_len _ _) (auc_len h.1)
  · simp

set_option maxHeartbeats 1000000 in
theorem implLotsBought_any (A : Option Addr) (n c : Nat) (xs : List R5) (b : Int) (w : World) (hn : xs.length = n) (hA : Rd w A (cells5 xs)) (h20 : n ≤ 1048576) :
    Calls Try.prog 29 #[.slice A n c, .int .i64 b] w (RetOwnIB 3 1 (boughtV xs b).length (cells1 (boughtV xs b)) (boughtS xs b) (boB xs b) w) := by
  have C1 := Lib.hid (fun w => isAuction_any A n c xs w hn)
  have C2 := Lib.hid (fun w => inRange_any b 1 999 w)
  cases hv : auc xs with
  | false =>
    rw [hv] at C1
    have e : boB xs b = false := by simp [boB, hv]
    rw [show boughtV xs b = [] by simp [boughtV, e], show boughtS xs b = 0 by simp [boughtS, e], e]
    clear e hv
    go_enter Try.func29, Try.ntmps29
    go_wp2_with fail
    refine (C1.out _ hA h20).mono ?_
    rintro e w1 ⟨rfl, b1⟩
    go_wp2
    go_ret3
    exact ⟨_, rfl, World.ownsRow_nil _ _ _ _, b1⟩
  | true =>
    rw [hv] at C1
    cases hs : inR b 1 999 with
    | false =>
      rw [hs] at C2
      have e : boB xs b = false := by simp [boB, hs]
      rw [show boughtV xs b = [] by simp [boughtV, e], show boughtS xs b = 0 by simp [boughtS, e], e]
      clear e hv hs
      go_enter Try.func29, Try.ntmps29
      go_wp2_with fail
      refine (C1.out _ hA h20).mono ?_
      rintro e w1 ⟨rfl, b1⟩
      go_wp2_with fail
      refine (C2.out _).mono ?_
      rintro e w2 ⟨rfl, rfl⟩
      go_wp2
      go_ret3
      exact ⟨_, rfl, World.ownsRow_nil _ _ _ _, b1⟩
    | true =>
      rw [hs] at C2
      have e : boB xs b = true := by simp [boB, hv, hs]
      rw [show boughtV xs b = idsOf (pSold b) xs by simp [boughtV, e], show boughtS xs b = sumD (pSold b) xs by simp [boughtS, e], e]
      have C3 := Lib.hid (fun w h => lotsBought_any A n c xs b w hn h hv (inR_true.1 hs).1)
      clear e hv hs
      go_enter Try.func29, Try.ntmps29
      go_wp2_with fail
      refine (C1.out _ hA h20).mono ?_
      rintro e w1 ⟨rfl, b1⟩
      go_wp2_with fail
      refine (C2.out _).mono ?_
      rintro e w2 ⟨rfl, rfl⟩
      go_wp2_with fail
      refine (C3.out _ (hA.below b1)).mono ?_
      rintro e w3 ⟨v3, rfl, o3, b3⟩
      go_wp2
      go_ret3
      exact ⟨_, rfl, own_mono o3 b1.size, b1.trans (b3.mono b1.size)⟩

set_option maxHeartbeats 1000000 in
theorem specLotsBought_any (A : Option Addr) (n c : Nat) (xs : List R5) (b : Int) (w : World) (hn : xs.length = n) (hA : Rd w A (cells5 xs)) (h20 : n ≤ 1048576) :
    Calls Try.prog 28 #[.slice A n c, .int .i64 b] w (RetOwnIB 3 1 (boughtV xs b).length (cells1 (boughtV xs b)) (boughtS xs b) (boB xs b) w) := by
  have C1 := Lib.hid (fun w => l29Good_any A n c xs w hn)
  have C2 := Lib.hid (fun w => l1In_any b 1 999 w)
  have HE := Lib.hid (own_empty w w.heap.size 3 1 (Nat.le_refl _))
  cases hv : auc xs with
  | false =>
    rw [hv] at C1
    have e : boB xs b = false := by simp [boB, hv]
    rw [show boughtV xs b = [] by simp [boughtV, e], show boughtS xs b = 0 by simp [boughtS, e], e]
    clear e hv
    go_enter Try.func28, Try.ntmps28
    go_wp2_with fail
    refine (C1.out _ (hA.alloc _) h20).mono ?_
    rintro e w1 ⟨rfl, b1⟩
    go_wp2
    go_ret3
    exact ⟨_, rfl, own_below HE.out b1, ((Below.refl _ _).alloc (Nat.le_refl _) _).trans (b1.mono (by simp))⟩
  | true =>
    rw [hv] at C1
    cases hs : inR b 1 999 with
    | false =>
      rw [hs] at C2
      have e : boB xs b = false := by simp [boB, hs]
      rw [show boughtV xs b = [] by simp [boughtV, e], show boughtS xs b = 0 by simp [boughtS, e], e]
      clear e hv hs
      go_enter Try.func28, Try.ntmps28
      go_wp2_with fail
      refine (C1.out _ (hA.alloc _) h20).mono ?_
      rintro e w1 ⟨rfl, b1⟩
      go_wp2_with fail
      refine (C2.out _).mono ?_
      rintro e w2 ⟨rfl, rfl⟩
      go_wp2
      go_ret3
      exact ⟨_, rfl, own_below HE.out b1, ((Below.refl _ _).alloc (Nat.le_refl _) _).trans (b1.mono (by simp))⟩
    | true =>
      rw [hs] at C2
      have h8 : n ≤ 8 := by have := auc_len hv; omega
      have hb1 := (inR_true.1 hs).1
      have e : boB xs b = true := by simp [boB, hv, hs]
      rw [show boughtV xs b = idsOf (pSold b) xs by simp [boughtV, e], show boughtS xs b = sumD (pSold b) xs by simp [boughtS, e], e]
      have C3 := Lib.hid (fun w h => l29Sum_any A n c xs b w hn h hv)
      clear e hv hs
      go_enter Try.func28, Try.ntmps28
      go_wp2_with fail
      refine (C1.out _ (hA.alloc _) h20).mono ?_
      rintro e w1 ⟨rfl, b1⟩
      have hbw := ((Below.refl w.heap.size w).alloc (Nat.le_refl _) _).trans (b1.mono (by simp))
      have HE1 := Lib.hid (own_below HE.out b1)
      have hsz := hbw.size
      clear b1
      go_wp2_with fail
      refine (C2.out _).mono ?_
      rintro e w2 ⟨rfl, rfl⟩
      go_wp2_with fail
      go_loopw [7, 8] (fun v i wr => ∃ (k : Nat), k ≤ n ∧ i = .int .i64 k ∧ IdRel w 3 (pSold b) xs k v wr) (fun _ i _ => n - (intOf i).toNat)
      case atStart => exact ⟨0, by omega, rfl, HE1.out, hbw⟩
      case round =>
        obtain ⟨k, hk, rfl, hids⟩ := hrel
        have HI := Lib.hid hids
        obtain ⟨ho, hb⟩ := hids
        by_cases hlt : k < n
        · obtain ⟨x, hxk⟩ : ∃ x, xs[k]? = some x := ⟨xs[k], List.getElem?_eq_getElem (by omega)⟩
          obtain ⟨g, o, hAe, hg, c0, c1, c2, c3, c4⟩ := (hA.below hb).at5 hxk
          subst hAe
          have HX := Lib.hid hxk
          have hlen := idsOf_take_len (pSold b) xs k
          have HO1 := Lib.hid (fun o1 => ho.alloc o1)
          clear hxk hA ho
          go_wp2_with (at_builtin; go_must (refine wpList_app _ rfl (.tmp 40) (.tmp 46) 31 rfl w.heap.size 3 _ 1 8 Try.underlying31 info3 rfl (by omega) _ _ _ rfl (HO1.out _) _ 1 1 [.int .i64 x.a] rfl rfl (rd_new #[.int .i64 x.a] 3 (by simp)) (oneCell_ints [x.a]) (by unfold maxLen; omega) (by omega) (by have := hb.size; simp; omega) ?_); intro v' w' o' g' d')
          · have hc : x.c = 2 := by assumption
            have he : (x.e == b) = true := by assumption
            have hp : pSold b x = true := by simp [pSold, hc, he]
            have R2 := Lib.hid (HI.out.yes HX.out hp ((Below.refl _ _).alloc hb.size _) (HO1.out _) o' g')
            go_roundw
            case rel => exact ⟨k + 1, by omega, by go_num, R2.out⟩
            case measure => simp [intOf]; omega
          all_goals
            have hp : pSold b x = false := by clear HI HE HE1; go_light; grind [pSold]
            have R2 := Lib.hid (HI.out.no HX.out hp (Below.refl _ _) HI.out.1)
            go_roundw
            case rel => exact ⟨k + 1, by omega, by go_num, R2.out⟩
            case measure => simp [intOf]; omega
        · obtain ⟨ho', hB⟩ := HI.out
          rw [List.take_of_length_le (by omega)] at ho'
          have HO := Lib.hid ho'
          clear ho' HI
          go_wp2_with fail
          refine (C3.out _ (hA.below hB)).mono ?_
          rintro e w3 ⟨rfl, b3⟩
          go_wp2
          go_ret3
          exact ⟨_, rfl, own_below HO.out b3, hB.trans (b3.mono hB.size)⟩
end Go.Proofs.Ytgjbnabfgngkjaa
