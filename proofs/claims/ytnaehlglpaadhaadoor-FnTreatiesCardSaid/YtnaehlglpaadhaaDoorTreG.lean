/- EndTreaty: the program's function and the reference's return one list. -/
import Derived.Test.YtnaehlglpaadhaaDoorTreE
import Derived.Test.YtnaehlglpaadhaaDoorSlcTrea
namespace Go.Proofs.YtnaehlglpaadhaaDoor
set_option linter.unusedVariables false
set_option linter.unusedSimpArgs false
open Go.RowKit

theorem cells5_split {xs : List R5} {k : Nat} {x : R5} (h : xs[k]? = some x) : cells5 xs = cells5 (xs.take k) ++ (x.cells ++ cells5 (xs.drop (k + 1))) ∧ (cells5 (xs.take k)).length = k * 5 := by
  have hk := (List.getElem?_eq_some_iff.1 h).1
  have hx : xs[k] = x := by rw [List.getElem?_eq_getElem hk] at h; injection h
  refine ⟨?_, by rw [length_cells5, List.length_take]; congr 1; omega⟩
  rw [← cells5_cons, ← hx, ← List.drop_eq_getElem_cons hk, ← cells5_append, List.take_append_drop]
theorem cells5_setIdx {xs : List R5} {k : Nat} {x y : R5} (h : xs[k]? = some x) : cells5 (xs.set k y) = cells5 (xs.take k) ++ (y.cells ++ cells5 (xs.drop (k + 1))) := by
  have hk := (List.getElem?_eq_some_iff.1 h).1
  rw [List.set_eq_take_append_cons_drop, if_pos hk, cells5_append, cells5_cons]
theorem setAll_cells5 {xs : List R5} {k : Nat} {x y : R5} (h : xs[k]? = some x) : setAll (cells5 xs) (k * 5) y.cells = cells5 (xs.set k y) := by
  obtain ⟨e, hl⟩ := cells5_split h
  rw [cells5_setIdx h, e]
  have := setAll_mid y.cells (cells5 (xs.take k)) x.cells (cells5 (xs.drop (k + 1))) rfl
  rwa [hl] at this
theorem set3_cells5 {xs : List R5} {k : Nat} {x : R5} (h : xs[k]? = some x) (z : Int) : (cells5 xs).set (k * 5 + 3) (.int .i64 z) = cells5 (xs.set k { x with d := z }) := by
  obtain ⟨e, hl⟩ := cells5_split h
  rw [cells5_setIdx h, e, List.set_append_right _ _ (by omega), hl, Nat.add_sub_cancel_left]
  rfl
theorem own_some {w : World} {base e size n : Nat} {v : Value} {cs : List Value} (h : w.ownsRow base e size v n cs) (hn : 0 < n) : ∃ g c, v = .slice (some ⟨g, 0, none⟩) n c ∧ base ≤ g ∧ g < w.heap.size := by
  rcases h.2 with ⟨_, h0⟩ | ⟨g, cap, cur, hv, hb, hg, _⟩
  · omega
  · exact ⟨g, cap, hv, hb, (Array.getElem?_eq_some_iff.1 hg).1⟩

def endB (xs : List R5) (i day : Int) : Bool := trL xs && (decide (0 ≤ i) && match xs[i.toNat]? with | some x => inR day x.c x.d | none => false)
def endV (xs : List R5) (i day : Int) : List R5 := if endB xs i day then match xs[i.toNat]? with | some x => xs.set i.toNat { x with d := day } | none => [] else []
theorem end_len {xs : List R5} {i day : Int} : (endV xs i day).length ≤ 20 := by
  unfold endV
  split
  · rename_i h
    simp only [endB, Bool.and_eq_true] at h
    split
    · rw [List.length_set]; exact trL_len h.1
    · simp
  · simp

set_option maxRecDepth 20000 in
set_option maxHeartbeats 2000000 in
theorem implEndTreaty_any (A : Option Addr) (n c : Nat) (xs : List R5) (i day : Int) (w : World) (hn : xs.length = n) (hA : Rd w A (cells5 xs)) (h20 : n ≤ 1048576) :
    Calls Tryd.prog 15 #[.slice A n c, .int .i64 i, .int .i64 day] w (RetOwnB 44 5 (endV xs i day).length (cells5 (endV xs i day)) (endB xs i day) w) := by
  have C0 := Lib.hid (fun w h => areTreaties_any A n c xs w hn h h20)
  have C1 := Lib.hid (fun w => inRange_any i 0 ((n : Int) - 1) w)
  have hww := IntWalk.i64_in ((n : Int) - 1) (by omega)
  cases hv : trL xs with
  | false =>
    rw [hv] at C0
    have e : endB xs i day = false := by simp [endB, hv]
    rw [show endV xs i day = [] by simp [endV, e], e]
    clear e hv C1 hww
    go_enter Tryd.func15, Tryd.ntmps15
    go_wp2_with fail
    refine wp_region_lat w.heap.size (by kernel_rfl) (by kernel_rfl) ?_
    have LC := fun (u : Lat w.heap.size w) => u.cell
    repeat (go_big_quiet_step ((go_at_call 30; exact lat_call _ (Nat.le_refl _) (C0.out _ (hA.below (Lat.below _))))))
    refine wpQuiet_nil ?_
    intro w1 b1
    clear LC
    go_wp2
    go_ret2
    exact ⟨_, rfl, World.ownsRow_nil _ _ _ _, b1⟩
  | true =>
    rw [hv] at C0
    cases hr : inR i 0 ((n : Int) - 1) with
    | false =>
      rw [hr] at C1
      have e : endB xs i day = false := by
        rw [inR_false] at hr
        by_cases h0 : 0 ≤ i
        · have : xs[i.toNat]? = none := by rw [List.getElem?_eq_none_iff]; omega
          simp [endB, this]
        · simp [endB, h0]
      rw [show endV xs i day = [] by simp [endV, e], e]
      clear e hv hr
      go_enter Tryd.func15, Tryd.ntmps15
      go_wp2_with fail
      refine wp_region_lat w.heap.size (by kernel_rfl) (by kernel_rfl) ?_
      have LC := fun (u : Lat w.heap.size w) => u.cell
      repeat (go_big_quiet_step ((first | (go_at_call 30; exact lat_call _ (Nat.le_refl _) (C0.out _ (hA.below (Lat.below _)))) | (go_at_call 46; (with_reducible exact lat_same _ (C1.out _))))))
      refine wpQuiet_nil ?_
      intro w1 b1
      clear LC
      go_wp2
      go_ret2
      exact ⟨_, rfl, World.ownsRow_nil _ _ _ _, b1⟩
    | true =>
      rw [hr] at C1
      obtain ⟨h0, h1⟩ := inR_true.1 hr
      obtain ⟨k, rfl⟩ := Int.eq_ofNat_of_zero_le h0
      have hk : k < n := by omega
      obtain ⟨x, hxk⟩ : ∃ x, xs[k]? = some x := ⟨xs[k], List.getElem?_eq_getElem (by omega)⟩
      obtain ⟨g, o, hAe, hg, c0, c1, c2, c3, c4⟩ := hA.at5 hxk
      have C2 := Lib.hid (fun w => inRange_any day x.c x.d w)
      have n20 := trL_len hv
      have C3 := Lib.hid (fun w h => cloneTreaty_any A n c (cells5 xs) w (by rw [length_cells5, hn]) h (oneCell_cells5 xs) h20)
      have HA := Lib.hid hA
      cases hd : inR day x.c x.d with
      | false =>
        rw [hd] at C2
        have e : endB xs k day = false := by simp [endB, hxk, hd]
        rw [show endV xs k day = [] by simp [endV, e], e]
        subst hAe
        clear e hv hr hd h0 h1 hxk C3 hA
        go_enter Tryd.func15, Tryd.ntmps15
        go_wp2_with fail
        refine wp_region_lat w.heap.size (by kernel_rfl) (by kernel_rfl) ?_
        have LC := fun (u : Lat w.heap.size w) => u.cell
        repeat (go_big_quiet_step ((first | (go_at_call 30; exact lat_call _ (Nat.le_refl _) (C0.out _ (HA.out.below (Lat.below _)))) | (go_at_call 46; first | (with_reducible exact lat_same _ (C1.out _)) | (with_reducible exact lat_same _ (C2.out _))))))
        refine wpQuiet_nil ?_
        intro w1 b1
        clear LC
        go_wp2
        go_ret2
        exact ⟨_, rfl, World.ownsRow_nil _ _ _ _, b1⟩
      | true =>
        rw [hd] at C2
        have e : endB xs k day = true := by simp [endB, hxk, hd, hv]
        rw [show endV xs k day = xs.set k { x with d := day } by simp [endV, e, hxk], e]
        have HS := Lib.hid (set3_cells5 hxk day)
        subst hAe
        clear e hv hr hd h0 h1 hxk hA
        go_enter Tryd.func15, Tryd.ntmps15
        go_wp2_with fail
        refine wp_region_lat w.heap.size (by kernel_rfl) (by kernel_rfl) ?_
        have LC := fun (u : Lat w.heap.size w) => u.cell
        repeat (go_big_quiet_step ((first | (go_at_call 30; exact lat_call _ (Nat.le_refl _) (C0.out _ (HA.out.below (Lat.below _)))) | (go_at_call 46; first | (with_reducible exact lat_same _ (C1.out _)) | (with_reducible exact lat_same _ (C2.out _))))))
        refine wpQuiet_nil ?_
        intro w1 b1
        clear LC
        go_wp2_with fail
        refine (C3.out _ (HA.out.below b1)).mono ?_
        rintro e w2 ⟨v2, rfl, o2, b2⟩
        obtain ⟨g2, cap2, rfl, hg2, hg2'⟩ := own_some o2 (by omega)
        have hth := own_there o2 (k * 5 + 3) 1 (by omega)
        obtain ⟨⟨u0, d0⟩, f0⟩ := (hth 0 (by omega)).imp_left Option.isSome_iff_exists.1
        simp only [Nat.add_zero] at d0 f0
        have HO := Lib.hid (o2.stored (k * 5 + 3) (.int .i64 day))
        have hb2 := b1.trans (b2.mono b1.size)
        have hs1 := b1.size
        clear hth c0 c1 c2 c3 c4 o2
        go_wp2
        go_ret2
        obtain ⟨o3, g3⟩ := HO.out
        rw [HS.out] at o3
        refine ⟨_, rfl, ?_, hb2.setCell (by simp; omega) _⟩
        rw [List.length_set, hn]
        exact own_mono o3 hs1

set_option maxRecDepth 20000 in
set_option maxHeartbeats 2000000 in
theorem specEndTreaty_any (A : Option Addr) (n c : Nat) (xs : List R5) (i day : Int) (w : World) (hn : xs.length = n) (hA : Rd w A (cells5 xs)) (h20 : n ≤ 1048576) :
    Calls Tryd.prog 16 #[.slice A n c, .int .i64 i, .int .i64 day] w (RetOwnB 44 5 (endV xs i day).length (cells5 (endV xs i day)) (endB xs i day) w) := by
  have C0 := Lib.hid (fun w h => l25Good_any A n c xs w hn h h20)
  cases hv : trL xs with
  | false =>
    rw [hv] at C0
    have e : endB xs i day = false := by simp [endB, hv]
    rw [show endV xs i day = [] by simp [endV, e], e]
    clear e hv
    go_enter Tryd.func16, Tryd.ntmps16
    go_wp2_with fail
    refine wp_region_lat w.heap.size (by kernel_rfl) (by kernel_rfl) ?_
    have LC := fun (u : Lat w.heap.size w) => u.cell
    repeat (go_big_quiet_step ((go_at_call 34; exact lat_call _ (Nat.le_refl _) (C0.out _ (hA.below (Lat.below _))))))
    refine wpQuiet_nil ?_
    intro w1 b1
    clear LC
    go_wp2
    go_ret2
    exact ⟨_, rfl, own_empty _ _ _ _ b1.size, b1.alloc b1.size _⟩
  | true =>
    rw [hv] at C0
    by_cases h0 : i < 0
    · have e : endB xs i day = false := by simp [endB, show ¬ 0 ≤ i by omega]
      rw [show endV xs i day = [] by simp [endV, e], e]
      have hd0 : decide (i < 0) = true := by simp [h0]
      clear e hv
      go_enter Tryd.func16, Tryd.ntmps16
      go_wp2_with fail
      refine wp_region_lat w.heap.size (by kernel_rfl) (by kernel_rfl) ?_
      have LC := fun (u : Lat w.heap.size w) => u.cell
      repeat (go_big_quiet_step ((go_at_call 34; exact lat_call _ (Nat.le_refl _) (C0.out _ (hA.below (Lat.below _))))))
      refine wpQuiet_nil ?_
      intro w1 b1
      clear LC
      go_wp2
      go_ret2
      exact ⟨_, rfl, own_empty _ _ _ _ b1.size, b1.alloc b1.size _⟩
    · obtain ⟨k, rfl⟩ := Int.eq_ofNat_of_zero_le (show 0 ≤ i by omega)
      have hd0 : decide ((k : Int) < 0) = false := by simp
      by_cases hk : n ≤ k
      · have hd1 : decide (n ≤ k) = true := by simp [hk]
        have e : endB xs k day = false := by
          have : xs[k]? = none := by rw [List.getElem?_eq_none_iff]; omega
          simp [endB, this]
        rw [show endV xs k day = [] by simp [endV, e], e]
        clear e hv h0
        go_enter Tryd.func16, Tryd.ntmps16
        go_wp2_with fail
        refine wp_region_lat w.heap.size (by kernel_rfl) (by kernel_rfl) ?_
        have LC := fun (u : Lat w.heap.size w) => u.cell
        repeat (go_big_quiet_step ((go_at_call 34; exact lat_call _ (Nat.le_refl _) (C0.out _ (hA.below (Lat.below _))))))
        refine wpQuiet_nil ?_
        intro w1 b1
        clear LC
        go_wp2
        go_ret2
        exact ⟨_, rfl, own_empty _ _ _ _ b1.size, b1.alloc b1.size _⟩
      · have hd1 : decide (n ≤ k) = false := by simp; omega
        obtain ⟨x, hxk⟩ : ∃ x, xs[k]? = some x := ⟨xs[k], List.getElem?_eq_getElem (by omega)⟩
        obtain ⟨g, o, hAe, hg, c0, c1, c2, c3, c4⟩ := hA.at5 hxk
        have C2 := Lib.hid (fun w => l1In_any day x.c x.d w)
        have n20 := trL_len hv
        have HA := Lib.hid hA
        cases hd : inR day x.c x.d with
        | false =>
          rw [hd] at C2
          have e : endB xs k day = false := by simp [endB, hxk, hd]
          rw [show endV xs k day = [] by simp [endV, e], e]
          subst hAe
          clear e hv hd h0 hxk hA
          go_enter Tryd.func16, Tryd.ntmps16
          go_wp2_with fail
          refine wp_region_lat w.heap.size (by kernel_rfl) (by kernel_rfl) ?_
          have LC := fun (u : Lat w.heap.size w) => u.cell
          repeat (go_big_quiet_step ((first | (go_at_call 34; exact lat_call _ (Nat.le_refl _) (C0.out _ (HA.out.below (Lat.below _)))) | (go_at_call 48; (with_reducible exact lat_same _ (C2.out _))))))
          refine wpQuiet_nil ?_
          intro w1 b1
          clear LC
          go_wp2
          go_ret2
          exact ⟨_, rfl, own_empty _ _ _ _ b1.size, b1.alloc b1.size _⟩
        | true =>
          rw [hd] at C2
          have e : endB xs k day = true := by simp [endB, hxk, hd, hv]
          rw [show endV xs k day = xs.set k { x with d := day } by simp [endV, e, hxk], e]
          have HS := Lib.hid (setAll_cells5 (y := { x with d := day }) hxk)
          have HX := Lib.hid hxk
          have HL := Lib.hid (show (cells5 xs).length = n * 5 by rw [length_cells5, hn])
          have HSZ := Lib.hid size44
          subst hAe
          clear e hv hd h0 hxk hA
          go_enter Tryd.func16, Tryd.ntmps16
          go_wp2_with fail
          refine wp_region_lat w.heap.size (by kernel_rfl) (by kernel_rfl) ?_
          have LC := fun (u : Lat w.heap.size w) => u.cell
          repeat (go_big_quiet_step ((first | (go_at_call 34; exact lat_call _ (Nat.le_refl _) (C0.out _ (HA.out.below (Lat.below _)))) | (go_at_call 48; (with_reducible exact lat_same _ (C2.out _))))))
          refine wpQuiet_nil ?_
          intro w1 b1
          clear LC c0 c1 c2 c3 c4
          have HE := Lib.hid (own_empty w1 w.heap.size 44 5 b1.size)
          have HB1 := Lib.hid (b1.alloc b1.size (.cells #[] 44))
          have HR := Lib.hid (HA.out.below HB1.out)
          have hs1 := b1.size
          go_wp2_with (at_builtin; go_must (refine wpList_app _ rfl (.tmp 39) (.tmp 40) 24 rfl w.heap.size 44 _ 5 40 Tryd.underlying24 info44 rfl (by omega) _ _ _ rfl HE.out _ n c (cells5 xs) rfl HL.out HR.out (oneCell_cells5 xs) (by unfold maxLen; omega) (by omega) (by simp; omega) ?_); intro v2 w2 o2 g2 d2; refine Hid.out ?_)
          rw [Nat.zero_add, List.nil_append] at o2
          have B2 := Lib.hid (HB1.out.trans (below_app HE.out g2 HB1.out.size (Nat.le_refl _)))
          obtain ⟨gg, cap2, rfl, hg2, hg2'⟩ := own_some o2 (by omega)
          obtain ⟨g9, o9, hA9, hg9, c0, c1, c2, c3, c4⟩ := (Rd.of_own o2).at5 HX.out
          injection hA9 with hA9
          injection hA9 with hA8 hA7
          subst hA8; subst hA7
          have HO2 := Lib.hid o2
          clear o2 g2 d2 hg9
          simp only [Nat.zero_add] at c0 c1 c2 c3 c4
          have HT := Lib.hid (fun (W : World) (h : Below w2.heap.size w2 W) => own_there (own_below HO2.out h) (k * 5) 5 (by omega))
          refine Lib.hid ?_
          go_wp2_with (refine wpList_store_mid (op := ⟨none, .store 44 (.tmp 51) (.tmp 50), _, _, _, _⟩) rfl _ _ _ rfl gg (k * 5) #[.int .i64 x.a, .int .i64 x.b, .int .i64 x.c, .int .i64 day, .int .i64 x.e] rfl rfl (HT.out _ ((Below.refl _ _).alloc (Nat.le_refl _) _)) HSZ.out (one5 _ _ _ _ _) ?_)
          go_ret2
          have hb3 : Below w2.heap.size w2 (w2.alloc (Obj.cells #[.int .i64 x.a, .int .i64 x.b, .int .i64 x.c, .int .i64 day, .int .i64 x.e] 44)) := (Below.refl _ _).alloc (Nat.le_refl _) _
          obtain ⟨o3, g3⟩ := own_setCells ({ x with d := day } : R5).cells (own_below HO2.out hb3) (k * 5)
          rw [HS.out] at o3
          refine ⟨.slice (some ⟨gg, 0, none⟩) n cap2, rfl, ?_, (B2.out.trans (hb3.mono B2.out.size)).grown g3 (by have := B2.out.size; simp; omega) (fun j hj => by injection hj with hj; omega)⟩
          exact o3
end Go.Proofs.YtnaehlglpaadhaaDoor
