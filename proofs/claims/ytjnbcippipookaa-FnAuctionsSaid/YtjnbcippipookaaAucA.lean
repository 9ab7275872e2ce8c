/- Which lots and which auctions are valid: the program's and the reference's tests compute the same functions. -/
import Derived.Test.YtjnbcippipookaaSale
import Derived.Deep.Light
namespace Go.Proofs.Ytjnbcippipookaa
set_option linter.unusedVariables false
set_option linter.unusedSimpArgs false
open Go.RowKit

/-- A lot: a is its Id, b its Reserve, c its State, d its High, e its Bidder. -/
def lotB (x : R5) : Bool := decide ((1 ≤ x.a ∧ x.a ≤ 99) ∧ (0 ≤ x.b ∧ x.b ≤ 99999) ∧ (0 ≤ x.d ∧ x.d ≤ 99999) ∧ (0 ≤ x.e ∧ x.e ≤ 999) ∧ (x.d = 0 ↔ x.e = 0) ∧
  (x.c = 0 ∧ x.d = 0 ∨ x.c = 1 ∨ x.c = 2 ∧ 1 ≤ x.d ∧ x.b ≤ x.d ∨ x.c = 3 ∧ (x.d = 0 ∨ x.d < x.b)))

set_option maxHeartbeats 1000000 in
theorem isSaleLot_any (x : R5) (w : World) :
    Calls Try.prog 33 #[.agg #[.int .i64 x.a, .int .i64 x.b, .int .i64 x.c, .int .i64 x.d, .int .i64 x.e]] w (Ret (.bool (lotB x)) w) := by
  go_enter Try.func33, Try.ntmps33
  go_wp2_with (go_at_call 34; refine (inRange_any _ _ _ _).mono ?_; rintro e w' ⟨rfl, rfl⟩)
  all_goals
    go_ret
    refine ⟨ret_bool ?_, (Below.refl _ _).alloc (Nat.le_refl _) _⟩
    go_light
    grind [lotB, inR]

set_option maxHeartbeats 1000000 in
theorem l29One_any (x : R5) (w : World) :
    Calls Try.prog 40 #[.agg #[.int .i64 x.a, .int .i64 x.b, .int .i64 x.c, .int .i64 x.d, .int .i64 x.e]] w (Ret (.bool (lotB x)) w) := by
  go_enter Try.func40, Try.ntmps40
  go_wp2_with (go_at_call 41; refine (l1In_any _ _ _ _).mono ?_; rintro e w' ⟨rfl, rfl⟩)
  all_goals
    go_ret
    refine ⟨ret_bool ?_, (Below.refl _ _).alloc (Nat.le_refl _) _⟩
    go_light
    grind [lotB, inR]

/-- Element j is valid and stands behind the one before it. -/
def okAt (xs : List R5) (j : Nat) : Bool := match xs[j]? with
  | some x => lotB x && (j == 0 || match xs[j - 1]? with | some y => decide (y.a < x.a) | none => false)
  | none => true
def openN (xs : List R5) : Nat := (xs.filter (·.c == 1)).length
/-- The list is an auction. -/
def auc (xs : List R5) : Bool := (List.range xs.length).all (okAt xs) && (decide (xs.length ≤ 8) && decide (openN xs ≤ 1))
theorem openN_le (xs : List R5) : openN xs ≤ xs.length := List.length_filter_le _ _
theorem openN_take {xs : List R5} {k : Nat} {x : R5} (h : xs[k]? = some x) : openN (xs.take (k + 1)) = openN (xs.take k) + if x.c = 1 then 1 else 0 := by
  rw [List.take_add_one, h]; simp only [openN, Option.toList, List.filter_append, List.length_append]
  by_cases hc : x.c = 1 <;> simp [hc]
theorem auc_no {xs : List R5} {k : Nat} (hk : k < xs.length) (h : okAt xs k = false) : auc xs = false := by
  have : (List.range xs.length).all (okAt xs) = false := by
    rw [List.all_eq_false]; exact ⟨k, by simpa using hk, by simp [h]⟩
  simp [auc, this]
theorem auc_end {xs : List R5} (h : ∀ j, j < xs.length → okAt xs j = true) : auc xs = (decide (xs.length ≤ 8) && decide (openN xs ≤ 1)) := by
  have : (List.range xs.length).all (okAt xs) = true := by rw [List.all_eq_true]; intro j hj; exact h j (by simpa using hj)
  simp [auc, this]
theorem okAt_no {xs : List R5} {k : Nat} {x : R5} (h : xs[k]? = some x) (hv : lotB x = false) : okAt xs k = false := by simp [okAt, h, hv]
theorem okAt_first {xs : List R5} {k : Nat} {x : R5} (h : xs[k]? = some x) (hv : lotB x = true) (hk : k = 0) : okAt xs k = true := by subst hk; simp only [okAt, h]; simp [hv]
theorem okAt_next {xs : List R5} {k : Nat} {x y : R5} (h : xs[k]? = some x) (hv : lotB x = true) (hk : k ≠ 0) (hy : xs[k - 1]? = some y) : okAt xs k = decide (y.a < x.a) := by simp [okAt, h, hv, hk, hy]

/-- The loop's relation of the two tests. -/
def AucRel (W : World) (xs : List R5) (k : Nat) (m : Int) (wr : World) : Prop := (∀ j, j < k → okAt xs j = true) ∧ m = openN (xs.take k) ∧ Below W.heap.size W wr

theorem AucRel.step1 {W wr w1 : World} {xs : List R5} {k : Nat} {m : Int} {x : R5} (h : AucRel W xs k m wr) (hx : xs[k]? = some x) (hok : okAt xs k = true) (hb : Below W.heap.size wr w1) (hc : (x.c == 1) = true) :
    AucRel W xs (k + 1) (m + 1) w1 := by
  obtain ⟨h1, h2, h3⟩ := h
  refine ⟨fun j hj => ?_, ?_, h3.trans hb⟩
  · rcases Nat.lt_or_ge j k with hj' | hj'
    · exact h1 j hj'
    · have : j = k := by omega
      subst this; exact hok
  · rw [openN_take hx, h2, if_pos (by simpa using hc)]; simp
theorem AucRel.step0 {W wr w1 : World} {xs : List R5} {k : Nat} {m : Int} {x : R5} (h : AucRel W xs k m wr) (hx : xs[k]? = some x) (hok : okAt xs k = true) (hb : Below W.heap.size wr w1) (hc : (x.c == 1) = false) :
    AucRel W xs (k + 1) m w1 := by
  obtain ⟨h1, h2, h3⟩ := h
  refine ⟨fun j hj => ?_, ?_, h3.trans hb⟩
  · rcases Nat.lt_or_ge j k with hj' | hj'
    · exact h1 j hj'
    · have : j = k := by omega
      subst this; exact hok
  · rw [openN_take hx, h2, if_neg (by simpa using hc)]; simp
theorem AucRel.yes {W wr : World} {xs : List R5} {k n : Nat} {m : Int} (h : AucRel W xs k m wr) (hn : xs.length = n) (hk : k = n) (h8 : (n : Int) ≤ 8) : decide (m ≤ 1) = auc xs := by
  obtain ⟨h1, h2, h3⟩ := h
  rw [auc_end (by rw [hn, ← hk]; exact h1), h2, List.take_of_length_le (by omega)]
  have : xs.length ≤ 8 := by omega
  simp [this]; omega
theorem AucRel.long {W wr : World} {xs : List R5} {k n : Nat} {m : Int} (h : AucRel W xs k m wr) (hn : xs.length = n) (hk : k = n) (h8 : 8 < (n : Int)) : false = auc xs := by
  obtain ⟨h1, h2, h3⟩ := h
  rw [auc_end (by rw [hn, ← hk]; exact h1)]
  have : ¬ xs.length ≤ 8 := by omega
  simp [this]

set_option maxHeartbeats 1000000 in
theorem isAuction_any (A : Option Addr) (n c : Nat) (xs : List R5) (w : World) (hn : xs.length = n) (hA : Rd w A (cells5 xs)) (h20 : n ≤ 1048576) :
    Calls Try.prog 18 #[.slice A n c] w (Ret (.bool (auc xs)) w) := by
  go_enter Try.func18, Try.ntmps18
  go_wp2_with fail
  go_loopw [3, 8, 2, 4, 5] (fun s i r _ _ wr => ∃ (k : Nat) (m : Int), k ≤ n ∧ i = .int .i64 k ∧ r = .bool false ∧ s = .int .i64 m ∧ AucRel w xs k m wr) (fun _ i _ _ _ _ => n - (intOf i).toNat)
  case atStart => exact ⟨0, 0, by omega, rfl, rfl, rfl, fun j hj => by omega, rfl, Below.refl _ _⟩
  case round =>
    obtain ⟨k, m, hk, rfl, rfl, rfl, hrel⟩ := hrel
    have HR := Lib.hid hrel
    obtain ⟨_, hm, hb⟩ := hrel
    have hm0 : 0 ≤ m ∧ m ≤ k := by have := openN_le (xs.take k); rw [List.length_take] at this; omega
    clear hm
    by_cases hlt : k < n
    · obtain ⟨x, hxk⟩ : ∃ x, xs[k]? = some x := ⟨xs[k], List.getElem?_eq_getElem (by omega)⟩
      obtain ⟨g, o, rfl, hg, c0, c1, c2, c3, c4⟩ := (hA.below hb).at5 hxk
      have hg1 : g < wr.heap.size + 1 := by omega
      have HX := Lib.hid hxk
      clear hxk
      cases hv : lotB x with
      | false =>
        have C1 := Lib.hid (fun w => isSaleLot_any x w)
        rw [hv] at C1
        have HV := Lib.hid (okAt_no HX.out hv)
        clear hv
        go_wp2_with fail
        refine wp_region_lat (wr.heap.size + 1) (by kernel_rfl) (by kernel_rfl) ?_
        have LC := fun (u : Lat (wr.heap.size + 1) (wr.alloc (Obj.cells #[Value.int IntKind.i64 x.a, Value.int IntKind.i64 x.b, Value.int IntKind.i64 x.c, Value.int IntKind.i64 x.d, Value.int IntKind.i64 x.e] 36))) => u.cell
        repeat (go_big_quiet_step ((go_at_call 33; exact lat_call _ (by simp) (C1.out _))))
        refine wpQuiet_nil ?_
        intro w1 hb1
        clear LC
        go_wp2
        go_ret
        exact ⟨ret_bool (auc_no (by omega) HV.out).symm, (hb.alloc hb.size _).trans (hb1.mono (by have := hb.size; omega))⟩
      | true =>
        have C1 := Lib.hid (fun w => isSaleLot_any x w)
        rw [hv] at C1
        have HV := Lib.hid hv
        clear hv
        by_cases h0 : k ≤ 0
        · have hd : decide (0 < k) = false := by simp; omega
          have HN := Lib.hid (okAt_first HX.out HV.out (by omega))
          go_wp2_with fail
          refine wp_region_lat (wr.heap.size + 1) (by kernel_rfl) (by kernel_rfl) ?_
          have LC := fun (u : Lat (wr.heap.size + 1) (wr.alloc (Obj.cells #[Value.int IntKind.i64 x.a, Value.int IntKind.i64 x.b, Value.int IntKind.i64 x.c, Value.int IntKind.i64 x.d, Value.int IntKind.i64 x.e] 36))) => u.cell
          repeat (go_big_quiet_step ((go_at_call 33; exact lat_call _ (by simp) (C1.out _))))
          refine wpQuiet_nil ?_
          intro w1 hb1
          obtain ⟨bc, bf⟩ := bcell hb1
          have hbw := (((Below.refl w.heap.size wr).alloc hb.size _).trans (hb1.mono (by have := hb.size; omega)))
          clear LC
          go_wp2
          all_goals
            go_roundw
            case rel =>
              first
                | exact ⟨k + 1, _, by omega, by go_num, rfl, rfl, HR.out.step1 HX.out HN.out hbw (by assumption)⟩
                | exact ⟨k + 1, _, by omega, by go_num, rfl, rfl, HR.out.step0 HX.out HN.out hbw (by assumption)⟩
            case measure => simp [intOf]; omega
        · obtain ⟨y, hyk⟩ : ∃ y, xs[k - 1]? = some y := ⟨xs[k - 1], List.getElem?_eq_getElem (by omega)⟩
          obtain ⟨g', o', hA', _, d0, _⟩ := (hA.below hb).at5 hyk
          injection hA' with hA'
          injection hA' with hA1 hA2
          subst hA1; subst hA2
          have HN := Lib.hid (okAt_next HX.out HV.out (by omega) hyk)
          have hp : 0 < k := by omega
          clear hyk h0
          go_wp2_with fail
          refine wp_region_lat (wr.heap.size + 1) (by kernel_rfl) (by kernel_rfl) ?_
          have LC := fun (u : Lat (wr.heap.size + 1) (wr.alloc (Obj.cells #[Value.int IntKind.i64 x.a, Value.int IntKind.i64 x.b, Value.int IntKind.i64 x.c, Value.int IntKind.i64 x.d, Value.int IntKind.i64 x.e] 36))) => u.cell
          repeat (go_big_quiet_step ((go_at_call 33; exact lat_call _ (by simp) (C1.out _))))
          refine wpQuiet_nil ?_
          intro w1 hb1
          obtain ⟨bc, bf⟩ := bcell hb1
          have hbw := (((Below.refl w.heap.size wr).alloc hb.size _).trans (hb1.mono (by have := hb.size; omega)))
          clear LC
          go_wp2
          · have hle : x.a ≤ y.a := by assumption
            go_ret
            exact ⟨ret_bool (auc_no (k := k) (by omega) (by rw [HN.out]; simp; omega)).symm, (hb.alloc hb.size _).trans (hb1.mono (by have := hb.size; omega))⟩
          all_goals
            have hlt' : y.a < x.a := by assumption
            have HN' := Lib.hid (show okAt xs k = true from HN.out.trans (by simp [hlt']))
            go_roundw
            case rel =>
              first
                | exact ⟨k + 1, _, by omega, by go_num, rfl, rfl, HR.out.step1 HX.out HN'.out hbw (by assumption)⟩
                | exact ⟨k + 1, _, by omega, by go_num, rfl, rfl, HR.out.step0 HX.out HN'.out hbw (by assumption)⟩
            case measure => simp [intOf]; omega
    · go_wp2
      · go_ret
        exact ⟨ret_bool (HR.out.yes hn (by omega) (by assumption)), hb⟩
      · go_ret
        exact ⟨ret_bool (HR.out.long hn (by omega) (by assumption)), hb⟩

set_option maxHeartbeats 1000000 in
theorem l29Good_any (A : Option Addr) (n c : Nat) (xs : List R5) (w : World) (hn : xs.length = n) (hA : Rd w A (cells5 xs)) (h20 : n ≤ 1048576) :
    Calls Try.prog 21 #[.slice A n c] w (Ret (.bool (auc xs)) w) := by
  go_enter Try.func21, Try.ntmps21
  go_wp2_with fail
  go_loopw [3, 4, 2] (fun s i r wr => ∃ (k : Nat) (m : Int), k ≤ n ∧ i = .int .i64 k ∧ r = .bool false ∧ s = .int .i64 m ∧ AucRel w xs k m wr) (fun _ i _ _ => n - (intOf i).toNat)
  case atStart => exact ⟨0, 0, by omega, rfl, rfl, rfl, fun j hj => by omega, rfl, Below.refl _ _⟩
  case round =>
    obtain ⟨k, m, hk, rfl, rfl, rfl, hrel⟩ := hrel
    have HR := Lib.hid hrel
    obtain ⟨_, hm, hb⟩ := hrel
    have hm0 : 0 ≤ m ∧ m ≤ k := by have := openN_le (xs.take k); rw [List.length_take] at this; omega
    clear hm
    by_cases hlt : k < n
    · obtain ⟨x, hxk⟩ : ∃ x, xs[k]? = some x := ⟨xs[k], List.getElem?_eq_getElem (by omega)⟩
      obtain ⟨g, o, rfl, hg, c0, c1, c2, c3, c4⟩ := (hA.below hb).at5 hxk
      have HX := Lib.hid hxk
      clear hxk
      cases hv : lotB x with
      | false =>
        have C1 := Lib.hid (fun w => l29One_any x w)
        rw [hv] at C1
        have HV := Lib.hid (okAt_no HX.out hv)
        clear hv
        go_wp2_with fail
        refine wp_region_lat wr.heap.size (by kernel_rfl) (by kernel_rfl) ?_
        have LC := fun (u : Lat wr.heap.size wr) => u.cell
        repeat (go_big_quiet_step ((go_at_call 40; exact lat_call _ (Nat.le_refl _) (C1.out _))))
        refine wpQuiet_nil ?_
        intro w1 hb1
        clear LC
        go_wp2
        go_ret
        exact ⟨ret_bool (auc_no (by omega) HV.out).symm, hb.trans (hb1.mono hb.size)⟩
      | true =>
        have C1 := Lib.hid (fun w => l29One_any x w)
        rw [hv] at C1
        have HV := Lib.hid hv
        clear hv
        by_cases h0 : k ≤ 0
        · have hd : decide (0 < k) = false := by simp; omega
          have HN := Lib.hid (okAt_first HX.out HV.out (by omega))
          go_wp2_with fail
          refine wp_region_lat wr.heap.size (by kernel_rfl) (by kernel_rfl) ?_
          have LC := fun (u : Lat wr.heap.size wr) => u.cell
          repeat (go_big_quiet_step ((go_at_call 40; exact lat_call _ (Nat.le_refl _) (C1.out _))))
          refine wpQuiet_nil ?_
          intro w1 hb1
          obtain ⟨bc, bf⟩ := bcell hb1
          have hbw := hb1.mono hb.size
          clear LC
          go_wp2
          all_goals
            go_roundw
            case rel =>
              first
                | exact ⟨k + 1, _, by omega, by go_num, rfl, rfl, HR.out.step1 HX.out HN.out hbw (by assumption)⟩
                | exact ⟨k + 1, _, by omega, by go_num, rfl, rfl, HR.out.step0 HX.out HN.out hbw (by assumption)⟩
            case measure => simp [intOf]; omega
        · obtain ⟨y, hyk⟩ : ∃ y, xs[k - 1]? = some y := ⟨xs[k - 1], List.getElem?_eq_getElem (by omega)⟩
          obtain ⟨g', o', hA', _, d0, _⟩ := (hA.below hb).at5 hyk
          injection hA' with hA'
          injection hA' with hA1 hA2
          subst hA1; subst hA2
          have HN := Lib.hid (okAt_next HX.out HV.out (by omega) hyk)
          have hp : 0 < k := by omega
          clear hyk h0
          go_wp2_with fail
          refine wp_region_lat wr.heap.size (by kernel_rfl) (by kernel_rfl) ?_
          have LC := fun (u : Lat wr.heap.size wr) => u.cell
          repeat (go_big_quiet_step ((go_at_call 40; exact lat_call _ (Nat.le_refl _) (C1.out _))))
          refine wpQuiet_nil ?_
          intro w1 hb1
          obtain ⟨bc, bf⟩ := bcell hb1
          have hbw := hb1.mono hb.size
          clear LC
          go_wp2
          · have hle : x.a ≤ y.a := by assumption
            go_ret
            exact ⟨ret_bool (auc_no (k := k) (by omega) (by rw [HN.out]; simp; omega)).symm, hb.trans (hb1.mono hb.size)⟩
          all_goals
            have hlt' : y.a < x.a := by assumption
            have HN' := Lib.hid (show okAt xs k = true from HN.out.trans (by simp [hlt']))
            go_roundw
            case rel =>
              first
                | exact ⟨k + 1, _, by omega, by go_num, rfl, rfl, HR.out.step1 HX.out HN'.out hbw (by assumption)⟩
                | exact ⟨k + 1, _, by omega, by go_num, rfl, rfl, HR.out.step0 HX.out HN'.out hbw (by assumption)⟩
            case measure => simp [intOf]; omega
    · go_wp2
      · go_ret
        exact ⟨ret_bool (HR.out.yes hn (by omega) (by assumption)), hb⟩
      · go_ret
        exact ⟨ret_bool (HR.out.long hn (by omega) (by assumption)), hb⟩

theorem specIsAuction_any (A : Option Addr) (n c : Nat) (xs : List R5) (w : World) (hn : xs.length = n) (hA : Rd w A (cells5 xs)) (h20 : n ≤ 1048576) :
    Calls Try.prog 10 #[.slice A n c] w (Ret (.bool (auc xs)) w) := by
  go_enter Try.func10, Try.ntmps10
  go_wp2_with (go_at_call 21; refine (l29Good_any _ _ _ xs _ hn hA h20).mono ?_; rintro e w' ⟨rfl, hb⟩)
  go_ret
  exact ⟨rfl, by assumption⟩
theorem implIsAuction_any (A : Option Addr) (n c : Nat) (xs : List R5) (w : World) (hn : xs.length = n) (hA : Rd w A (cells5 xs)) (h20 : n ≤ 1048576) :
    Calls Try.prog 9 #[.slice A n c] w (Ret (.bool (auc xs)) w) := by
  go_enter Try.func9, Try.ntmps9
  go_wp2_with (go_at_call 18; refine (isAuction_any _ _ _ xs _ hn hA h20).mono ?_; rintro e w' ⟨rfl, hb⟩)
  go_ret
  exact ⟨rfl, by assumption⟩
end Go.Proofs.Ytjnbcippipookaa
