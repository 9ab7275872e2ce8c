/- The program's chain: a search breadth first; it is the best path. -/
import Derived.Test.YtpmklcpplpnlhaaTreF
namespace Go.Proofs.Ytpmklcpplpnlhaa
set_option linter.unusedVariables false
set_option linter.unusedSimpArgs false
open Go.RowKit

theorem infoIs : (Try.prog.info? 36).map (fun i => (i.zero, i.size, i.bytes)) = some (some (.slice none 0 0), 1, 24) := by kernel_rfl
theorem infoB : (Try.prog.info? 4).map (fun i => (i.zero, i.size, i.bytes)) = some (some (.bool false), 1, 1) := by kernel_rfl

/-- A slice of slices of ints in new memory, away from block X. -/
def NRow (w : World) (base E1 E2 X : Nat) (V : Value) (CV : List Value) (Q : List (List Int)) : Prop :=
  w.ownsRow base E1 1 V Q.length CV ∧ V.ownBlock ≠ some X ∧
    ∀ (j : Nat) (R : List Int), Q[j]? = some R → ∃ v, CV[j]? = some v ∧ w.ownsRow base E2 1 v R.length (cells1 R) ∧ v.ownBlock ≠ V.ownBlock ∧ v.ownBlock ≠ some X
theorem NRow.below {w w' : World} {base E1 E2 X : Nat} {V : Value} {CV : List Value} {Q : List (List Int)} (h : NRow w base E1 E2 X V CV Q) (hb : Below w.heap.size w w') : NRow w' base E1 E2 X V CV Q :=
  ⟨own_below h.1 hb, h.2.1, fun j R hj => by obtain ⟨v, h1, h2, h3, h4⟩ := h.2.2 j R hj; exact ⟨v, h1, own_below h2 hb, h3, h4⟩⟩
theorem NRow.kept {w w' : World} {base E1 E2 X : Nat} {V : Value} {CV : List Value} {Q : List (List Int)} (h : NRow w base E1 E2 X V CV Q) (hg : w.grownBy w' (some X)) : NRow w' base E1 E2 X V CV Q :=
  ⟨h.1.kept hg (.inr h.2.1), h.2.1, fun j R hj => by obtain ⟨v, h1, h2, h3, h4⟩ := h.2.2 j R hj; exact ⟨v, h1, h2.kept hg (.inr h4), h3, h4⟩⟩
/-- While a row that is newer than all of it is written. -/
theorem NRow.newer {w w' : World} {base E1 E2 X : Nat} {V : Value} {CV : List Value} {Q : List (List Int)} (h : NRow w base E1 E2 X V CV Q) {u : Value} {B : Nat} (hu : ∀ k, u.ownBlock = some k → B ≤ k) {w0 : World} (h0 : NRow w0 base E1 E2 X V CV Q) (hB : w0.heap.size ≤ B) (hg : w.grownBy w' u.ownBlock) : NRow w' base E1 E2 X V CV Q := by
  refine ⟨h.1.kept hg (rows_apart (fun k hk => (h0.1.lt k hk).2) hu hB), h.2.1, fun j R hj => ?_⟩
  obtain ⟨v, h1, h2, h3, h4⟩ := h.2.2 j R hj
  obtain ⟨v', g1, g2, _⟩ := h0.2.2 j R hj
  rw [h1] at g1; injection g1 with g1; subst g1
  exact ⟨v, h1, h2.kept hg (rows_apart (fun k hk => (g2.lt k hk).2) hu hB), h3, h4⟩
theorem NRow.push {w w' : World} {base E1 E2 X : Nat} {V V' v : Value} {CV : List Value} {Q : List (List Int)} {R : List Int} (h : NRow w base E1 E2 X V CV Q) (hv : w.ownsRow base E2 1 v R.length (cells1 R)) (hvV : v.ownBlock ≠ V.ownBlock) (hvX : v.ownBlock ≠ some X)
    (ho : w'.ownsRow base E1 1 V' (Q.length + 1) (CV ++ [v])) (hg : w.grownBy w' V.ownBlock) (hd : V'.ownBlock = V.ownBlock ∨ V'.ownBlock = some w.heap.size) (hX : X < w.heap.size) : NRow w' base E1 E2 X V' (CV ++ [v]) (Q ++ [R]) := by
  have hcv : CV.length = Q.length := by have := h.1.1; omega
  have hne : ∀ u : Value, (∀ k, u.ownBlock = some k → base ≤ k ∧ k < w.heap.size) → u.ownBlock ≠ V.ownBlock → u.ownBlock ≠ V'.ownBlock := fun u hu h1 h2 => by
    rcases hd with hd | hd
    · rw [hd] at h2; exact h1 h2
    · rw [hd] at h2; have := hu _ h2; omega
  refine ⟨by rw [List.length_append]; exact ho, ?_, fun j S hj => ?_⟩
  · rcases hd with hd | hd
    · rw [hd]; exact h.2.1
    · rw [hd]; intro e; injection e with e; omega
  · rcases Nat.lt_or_ge j Q.length with hlt | hge
    · rw [List.getElem?_append_left hlt] at hj
      obtain ⟨u, h1, h2, h3, h4⟩ := h.2.2 j S hj
      exact ⟨u, by rw [List.getElem?_append_left (by omega)]; exact h1, h2.kept hg (.inr h3), hne u h2.lt h3, h4⟩
    · rw [List.getElem?_append_right hge] at hj
      have hl := (List.getElem?_eq_some_iff.1 hj).1
      simp at hl
      have hjq : j = Q.length := by omega
      subst hjq
      simp at hj; subst hj
      exact ⟨v, by rw [List.getElem?_append_right (by omega), hcv]; simp, hv.kept hg (.inr hvV), hne v hv.lt hvV, hvX⟩

/-- Nine marks. -/
def seenC (s : Int → Bool) : List Value := posts.map (fun p => .bool (s p))
theorem seenC_get (s : Int → Bool) {k : Nat} (h : k < 9) : (seenC s)[k]? = some (.bool (s k)) := by simp [seenC, posts_get h]
theorem seenC_set (s : Int → Bool) {k : Nat} (h : k < 9) : (seenC s).set k (.bool true) = seenC (fun q => s q || q == k) := by
  apply List.ext_getElem?
  intro j
  rw [List.getElem?_set]
  have hl : (seenC s).length = 9 := by simp [seenC, posts]
  by_cases hj : k = j
  · subst hj
    rw [if_pos rfl, if_pos (by omega), seenC_get _ h]; simp
  · rw [if_neg hj]
    rcases Nat.lt_or_ge j 9 with h9 | h9
    · rw [seenC_get _ h9, seenC_get _ h9]
      have : ((j : Int) == (k : Int)) = false := by simp; omega
      rw [this, Bool.or_false]
    · rw [List.getElem?_eq_none_iff.2 (by omega), List.getElem?_eq_none_iff.2 (by simp [seenC, posts]; omega)]
def hdB (Q : List (List Int)) (q : Int) : Bool := hasB (Q.map hd) q
theorem hdB_push (Q : List (List Int)) (p : Int) (R : List Int) : (fun q => hdB Q q || q == p) = hdB (Q ++ [p :: R]) := by
  funext q
  unfold hdB hasB
  rw [List.map_append, List.any_append]
  congr 1
  simp only [List.map_cons, List.map_nil, hd, List.headD_cons, List.any_cons, List.any_nil, Bool.or_false]
  rw [Bool.eq_iff_iff]; simp only [beq_iff_eq]; exact ⟨fun h => h.symm, fun h => h.symm⟩

theorem hd_last {R : List Int} (h : 0 < R.length) : R.reverse[R.length - 1]? = some (hd R) := by
  cases R with
  | nil => simp at h
  | cons x r => rw [List.getElem?_reverse (by simp)]; simp [hd]

theorem hdB_one (a : Int) : (fun q => (fun _ => false) q || q == a) = hdB [[a]] := by
  funext q
  simp only [hdB, hasB, hd, List.map_cons, List.map_nil, List.headD_cons, List.any_cons, List.any_nil, Bool.or_false, Bool.false_or]
  rw [Bool.eq_iff_iff]; simp only [beq_iff_eq]; exact ⟨fun h => h.symm, fun h => h.symm⟩
theorem seen_made (w : World) (base E : Nat) (hb : base ≤ w.heap.size) : (w.alloc (.cells (madeCells #[.bool false] 9) E)).ownsRow base E 1 (.slice (some ⟨w.heap.size, 0, none⟩) 9 9) 9 (seenC (fun _ => false)) := by
  have h := own_made w base E 1 9 #[.bool false] hb (by unfold maxLen; omega)
  rw [toList_madeCells_one] at h
  exact h
theorem own_some' {w : World} {base e size n : Nat} {v : Value} {cs : List Value} (h : w.ownsRow base e size v n cs) (hn : 0 < n) : ∃ g c, v = .slice (some ⟨g, 0, none⟩) n c ∧ base ≤ g ∧ g < w.heap.size := by
  rcases h.2 with ⟨_, h0⟩ | ⟨g, cap, cur, hv, hb, hg, _⟩
  · omega
  · exact ⟨g, cap, hv, hb, (Array.getElem?_eq_some_iff.1 hg).1⟩

theorem nbL_lt {xs : List R5} {day u : Int} {i j : Nat} {x y : Int} (h : i < j) (hx : (nbL xs day u)[i]? = some x) (hy : (nbL xs day u)[j]? = some y) : x < y := by
  have hs : (nbL xs day u).Pairwise (· < ·) := List.Pairwise.filter _ (by decide)
  rw [List.pairwise_iff_getElem] at hs
  obtain ⟨li, ei⟩ := List.getElem?_eq_some_iff.1 hx
  obtain ⟨lj, ej⟩ := List.getElem?_eq_some_iff.1 hy
  have := hs i j li lj h
  rw [ei, ej] at this; exact this

/-- The state of the search: the chains and the marks, in new memory. -/
def SRel (W : World) (E1 E2 Eb : Nat) (V : Value) (CV : List Value) (Q : List (List Int)) (wr : World) : Prop :=
  NRow wr W.heap.size E1 E2 (W.heap.size + 1 + 1) V CV (Q.map List.reverse) ∧ wr.ownsRow W.heap.size Eb 1 (.slice (some ⟨W.heap.size + 1 + 1, 0, none⟩) 9 9) 9 (seenC (hdB Q)) ∧ Below W.heap.size W wr
theorem SRel.below {W wr w1 : World} {E1 E2 Eb : Nat} {V : Value} {CV : List Value} {Q : List (List Int)} (h : SRel W E1 E2 Eb V CV Q wr) (hb : Below wr.heap.size wr w1) : SRel W E1 E2 Eb V CV Q w1 :=
  ⟨h.1.below hb, own_below h.2.1 hb, h.2.2.trans (hb.mono h.2.2.size)⟩
theorem SRel.get {W wr : World} {E1 E2 Eb : Nat} {V : Value} {CV : List Value} {Q : List (List Int)} (h : SRel W E1 E2 Eb V CV Q wr) {k : Nat} {R : List Int} (hR : Q[k]? = some R) (hpos : 0 < R.length) :
    ∃ gV cV gR cR, V = .slice (some ⟨gV, 0, none⟩) Q.length cV ∧ wr.cell? ⟨gV, k, none⟩ = some (.slice (some ⟨gR, 0, none⟩) R.length cR) ∧ wr.ownsRow W.heap.size E2 1 (.slice (some ⟨gR, 0, none⟩) R.length cR) R.length (cells1 R.reverse) ∧
      wr.cell? ⟨gR, R.length - 1, none⟩ = some (.int .i64 (hd R)) ∧ gV < wr.heap.size ∧ gR < wr.heap.size ∧ gV ≠ W.heap.size + 1 + 1 ∧ gR ≠ W.heap.size + 1 + 1 := by
  obtain ⟨⟨h1, h2, h3⟩, _, _⟩ := h
  have hk := (List.getElem?_eq_some_iff.1 hR).1
  rw [List.length_map] at h1
  obtain ⟨v, g1, g2, g3, g4⟩ := h3 k R.reverse (by rw [List.getElem?_map, hR]; rfl)
  rw [List.length_reverse] at g2
  obtain ⟨gV, cV, rfl, _, hgV⟩ := own_some' h1 (by omega)
  obtain ⟨gR, cR, rfl, _, hgR⟩ := own_some' g2 hpos
  refine ⟨gV, cV, gR, cR, rfl, ?_, g2, own_cell1 g2 (hd_last hpos), hgV, hgR, fun e => h2 (by rw [e]; rfl), fun e => g4 (by rw [e]; rfl)⟩
  rw [h1.cellAt k (by omega)]; exact g1

set_option maxRecDepth 20000 in
set_option maxHeartbeats 8000000 in
theorem shortestChain_any (A : Option Addr) (n c : Nat) (xs : List R5) (a b : Nat) (day : Int) (w : World) (hn : xs.length = n) (hA : Rd w A (cells5 xs)) (hv : trL xs = true) (ha : a < 9) (hbb : b < 9) :
    Calls Try.prog 55 #[.slice A n c, .int .i64 a, .int .i64 b, .int .i64 day] w (RetOwnB 3 1 (chV (adjT xs day) a b).length (cells1 (chV (adjT xs day) a b)) (decide (0 < (chV (adjT xs day) a b).length)) w) := by
  have hmk : ∀ W, (Instr.makeSlice 57 (.int .i64 9) (.int .i64 9)).run Try.prog W = .ok (.slice (some ⟨W.heap.size, 0, none⟩) 9 9) (W.alloc (.cells (madeCells (Value.cells (.bool false)) 9) 4)) :=
    fun W => run_make_info (P := Try.prog) 57 4 _ 1 1 Try.underlying57 infoB 9 (by omega) (by omega) W
  have HV := Lib.hid hv
  have HG := Lib.hid (graphT hv day)
  have h20 : n ≤ 20 := by have := trL_len hv; omega
  have ha0 : (0 : Int) ≤ (a : Int) := by omega
  have ha8 : (a : Int) < 9 := by omega
  have HA8 := Lib.hid (show 0 ≤ (a : Int) ∧ (a : Int) ≤ 8 by omega)
  clear hv
  have hS0 := seen_made ((w.alloc (Obj.cells #[Value.int IntKind.i64 a] 3)).alloc (Obj.cells #[Value.slice (some { block := w.heap.size, off := 0 }) 1 1] 36)) w.heap.size 4 (by simp; omega)
  have hN0 : NRow ((w.alloc (Obj.cells #[Value.int IntKind.i64 a] 3)).alloc (Obj.cells #[Value.slice (some { block := w.heap.size, off := 0 }) 1 1] 36)) w.heap.size 36 3 (w.heap.size + 1 + 1) (.slice (some ⟨w.heap.size + 1, 0, none⟩) 1 1) [Value.slice (some { block := w.heap.size, off := 0 }) 1 1] [[(a : Int)]] := by
    have h1 := World.ownsRow_lit (base := w.heap.size) (e := 3) (size := 1) w #[.int .i64 a] 1 (Nat.le_refl _) (by unfold maxLen; omega) (by simp)
    have h2 := World.ownsRow_lit (base := w.heap.size) (e := 36) (size := 1) (w.alloc (Obj.cells #[Value.int IntKind.i64 a] 3)) #[Value.slice (some { block := w.heap.size, off := 0 }) 1 1] 1 (by simp) (by unfold maxLen; omega) (by simp)
    rw [World.size_alloc] at h2
    refine ⟨h2, by simp [Value.ownBlock], fun j R hj => ?_⟩
    cases j with
    | zero =>
      simp at hj; subst hj
      exact ⟨_, rfl, h1.alloc _, by simp [Value.ownBlock], by simp [Value.ownBlock]; omega⟩
    | succ j => simp at hj
  have hsz : ((w.alloc (Obj.cells #[Value.int IntKind.i64 a] 3)).alloc (Obj.cells #[Value.slice (some { block := w.heap.size, off := 0 }) 1 1] 36)).heap.size = w.heap.size + 1 + 1 := by simp
  rw [hsz] at hS0
  have hst := hS0.stored a (.bool true)
  rw [seenC_set _ ha, hdB_one] at hst
  have hs0 := (show SRel w 36 3 4 (.slice (some ⟨w.heap.size + 1, 0, none⟩) 1 1) [Value.slice (some { block := w.heap.size, off := 0 }) 1 1] [[(a : Int)]] _ from
    ⟨(hN0.below ((Below.refl _ _).alloc (Nat.le_refl _) _)).kept hst.2, hst.1, (((((Below.refl _ _).alloc (Nat.le_refl _) _).alloc (by simp) _).alloc (by simp; omega) _).setCell (by simp; omega) _)⟩)
  have hme := World.setCell_alloc_new (w := (w.alloc (Obj.cells #[Value.int IntKind.i64 a] 3)).alloc (Obj.cells #[Value.slice (some { block := w.heap.size, off := 0 }) 1 1] 36)) (madeCells #[Value.bool false] 9) 4 a (.bool true)
  rw [hsz] at hme
  rw [hme] at hs0
  have HS0 := Lib.hid hs0
  have sc0 := (hS0.cellAt a (by omega)).trans (seenC_get _ ha)
  have sf0 := hS0.frozenAt a
  clear hS0 hN0 hsz hst hme hs0
  go_enter Try.func55, Try.ntmps55
  go_wp2_with fail
  clear sc0 sf0
  have HBI := Lib.hid (BInv.start (adj := adjT xs day) HA8.out)
  go_loopw [10, 12, 13, 15] (fun V' k _ _ wr => ∃ (V : Value) (CV : List Value) (Q : List (List Int)) (kk : Nat), V = V' ∧ kk ≤ Q.length ∧ k = .int .i64 kk ∧ BInv (adjT xs day) a Q kk [] ∧ (∀ (j : Nat) (R : List Int), j < kk → Q[j]? = some R → hd R ≠ b) ∧ SRel w 36 3 4 V CV Q wr) (fun _ k _ _ _ => 9 - (intOf k).toNat)
  case atStart => exact ⟨_, _, _, 0, rfl, by omega, rfl, HBI.out, fun j R hj => by omega, HS0.out⟩
  case round =>
    obtain ⟨V, CV, Q, kk, rfl, hkk, rfl, hB, hno, hS⟩ := hrel
    have HB := Lib.hid hB
    have HNO := Lib.hid hno
    have HS := Lib.hid hS
    have hq9 := hB.size
    obtain ⟨m, hm⟩ : ∃ m, m = Q.length := ⟨_, rfl⟩
    rw [← hm] at hkk hq9
    have HM := Lib.hid hm
    clear hB hno
    by_cases hlt : kk < m
    · obtain ⟨R, hR⟩ : ∃ R, Q[kk]? = some R := ⟨Q[kk]'(by omega), List.getElem?_eq_getElem (by omega)⟩
      have hlen := HB.out.len9 hR
      obtain ⟨gV, cV, gR, cR, hVe, cc, hoR, cl, hgV, hgR, hnV, hnR⟩ := hS.get hR (by omega)
      rw [← hm] at hVe
      have HOR := Lib.hid hoR
      have HR := Lib.hid hR
      obtain ⟨x, hx⟩ : ∃ x, x = hd R := ⟨_, rfl⟩
      rw [← hx] at cl
      have HX := Lib.hid hx
      obtain ⟨len, hl⟩ : ∃ len, len = R.length := ⟨_, rfl⟩
      rw [← hl] at cc cl hlen
      have HL := Lib.hid hl
      have hp1 : 0 < len := by omega
      have hw := IntWalk.i64_in ((len : Int) - 1) (by omega)
      subst hVe
      clear hm hR hS hoR hx hl
      go_wp2_with fail
      refine wp_region_lat wr.heap.size (by kernel_rfl) (by kernel_rfl) ?_
      have LC := fun (u : Lat wr.heap.size wr) => u.cell
      repeat (go_big_quiet_step (fail))
      refine wpQuiet_nil ?_
      intro w1 b1
      clear LC hw cl
      have HS1 := Lib.hid (HS.out.below b1)
      have hcc := (b1.cell (p := ⟨gV, kk, none⟩) hgV).trans cc
      have hgV1 : gV < w1.heap.size := by have := b1.size; omega
      have HOR1 := Lib.hid (own_below HOR.out b1)
      have hw1 := HS1.out.2.2.size
      clear cc
      by_cases hxb : x = (b : Int)
      · have h1 : (x == (b : Int)) = true := by simp [hxb]
        have HBest := Lib.hid (chV_best (show Best (adjT xs day) a b R from (by have := HB.out.found HG.out HR.out; rwa [← HX.out, hxb] at this)))
        clear hxb
        go_wp2
        go_ret2
        rw [HBest.out, List.length_reverse, show decide (0 < R.length) = true by simp; have := HL.out; omega]
        refine ⟨_, rfl, ?_, HS1.out.2.2⟩
        rw [HL.out]
        exact HOR1.out
      · have h1 : (x == (b : Int)) = false := by simp [hxb]
        have HXB := Lib.hid hxb
        clear hxb
        go_wp2_with fail
        refine (partnersOf_any A n c xs x day _ hn (hA.below HS1.out.2.2) HV.out).mono ?_
        rintro e w2 ⟨vn, rfl, on, b2⟩
        obtain ⟨An, cn, rfl⟩ := own_form on
        obtain ⟨L, hL⟩ : ∃ L, L = (nbL xs day x).length := ⟨_, rfl⟩
        rw [← hL] at on
        rw [← hL]
        have HLL := Lib.hid hL
        have HON := Lib.hid on
        have HS2 := Lib.hid (HS1.out.below b2)
        have HNV := Lib.hid (show (Value.slice An L cn).ownBlock = none ∨ (Value.slice An L cn).ownBlock ≠ (Value.slice (some ⟨gV, 0, none⟩) m cV).ownBlock from
          rows_apart' (fun k hk => (on.lt k hk).1) (fun k hk => (HS1.out.1.1.lt k hk).2) (Nat.le_refl _))
        have hNX : w.heap.size + 1 + 1 < w1.heap.size := (HS1.out.2.1.lt _ rfl).2
        have hs2 := b2.size
        have hl9 : L ≤ 9 := by have := nbL_len xs day x; omega
        clear hcc on hL
        go_wp2_with fail
        go_loopw [53, 10, 15] (fun i V' _ wr' => ∃ (V : Value) (CV : List Value) (Q : List (List Int)) (j : Nat), V = V' ∧ j ≤ L ∧ i = .int .i64 j ∧ BInv (adjT xs day) a Q kk ((nbL xs day x).take j) ∧ Q[kk]? = some R ∧ (∀ (j : Nat) (R : List Int), j < kk → Q[j]? = some R → hd R ≠ b) ∧ SRel w 36 3 4 V CV Q wr' ∧
          wr'.ownsRow w1.heap.size 3 1 (.slice An L cn) L (cells1 (nbL xs day x)) ∧ ((Value.slice An L cn).ownBlock = none ∨ (Value.slice An L cn).ownBlock ≠ V.ownBlock)) (fun i _ _ _ => L - (intOf i).toNat)
        case atStart => exact ⟨_, CV, Q, 0, rfl, by omega, rfl, by simpa using HB.out, HR.out, HNO.out, HS2.out, HON.out, HNV.out⟩
        case round =>
          obtain ⟨V, CV, Q, j, rfl, hj, rfl, hB, hR, hno, hS, on, hNV⟩ := hrel
          have HB := Lib.hid hB
          have HR := Lib.hid hR
          have HNO := Lib.hid hno
          have HS := Lib.hid hS
          have HON := Lib.hid on
          have HNV := Lib.hid hNV
          have hq9 := hB.size
          have hkq := (List.getElem?_eq_some_iff.1 hR).1
          by_cases hlt2 : j < L
          · obtain ⟨v, hv⟩ : ∃ v, (nbL xs day x)[j]? = some v := ⟨(nbL xs day x)[j]'(by have := HLL.out; omega), List.getElem?_eq_getElem (by have := HLL.out; omega)⟩
            obtain ⟨hadj, v0, v8⟩ := nbL_get hv
            obtain ⟨q, rfl⟩ := Int.eq_ofNat_of_zero_le v0
            have hq9n : q < 9 := by omega
            have hq9i : (q : Int) < 9 := by omega
            obtain ⟨gn, o, hAe, hgn, ci⟩ := (Rd.of_own on).at1 hv
            have hnX : gn ≠ w.heap.size + 1 + 1 := by
              have := (on.lt gn (by rw [hAe]; rfl)).1
              omega
            have HVQ := Lib.hid hv
            have HADJ := Lib.hid hadj
            have cs := (hS.2.1.cellAt q (by omega)).trans (seenC_get _ hq9n)
            have fs := hS.2.1.frozenAt q
            have HTK := Lib.hid (show (nbL xs day x).take (j + 1) = (nbL xs day x).take j ++ [(q : Int)] by rw [List.take_add_one, hv]; rfl)
            have hbS := hS.2.2.size
            subst hAe
            clear hB hno on hNV hadj hv
            cases hsq : hdB Q q with
            | true =>
              rw [hsq] at cs
              have HSK := Lib.hid (HB.out.skip HA8.out HR.out (hasB_true.1 hsq))
              clear hsq hS hR
              go_wp2
              go_roundw
              case rel => exact ⟨_, CV, Q, j + 1, rfl, by omega, by go_num, by rw [HTK.out]; exact HSK.out, HR.out, HNO.out, HS.out, HON.out, HNV.out⟩
              case measure => simp [intOf]; omega
            | false =>
              rw [hsq] at cs
              have HP := Lib.hid (HB.out.push HA8.out HG.out HR.out (p := (q : Int)) (by rw [← HX.out]; exact HADJ.out) (hasB_false.1 hsq) (fun u hu => by
                obtain ⟨i, hi⟩ := List.mem_iff_getElem?.1 hu
                rw [List.getElem?_take] at hi
                split at hi
                · exact nbL_lt (by omega) hi HVQ.out
                · cases hi) (fun u hu => by
                obtain ⟨i, hi⟩ := List.mem_iff_getElem?.1 (List.mem_of_mem_take hu)
                exact (nbL_get hi).2))
              obtain ⟨gV, cV, gR, cR, hVe, cc, hoR, cl, hgV, hgR, hnV, hnR⟩ := hS.get hR (by have := HL.out; omega)
              obtain ⟨m, hm⟩ : ∃ m, m = Q.length := ⟨_, rfl⟩
              rw [← hm] at hVe hq9 hkq
              have HM := Lib.hid hm
              have hl' := HL.out
              rw [← hl'] at cc cl hoR
              have HOR := Lib.hid hoR
              subst hVe
              clear hsq hS hR cl hm hl' hoR
              -- the mark
              have hst := HS.out.2.1.stored q (.bool true)
              rw [seenC_set _ hq9n, hdB_push Q q R] at hst
              have HN1 := Lib.hid (HS.out.1.kept hst.2)
              have HE1 := Lib.hid hst.1
              have HON1 := Lib.hid (HON.out.kept hst.2 (.inr (fun e => hnX (by simpa [Value.ownBlock] using e))))
              have HOR1 := Lib.hid (HOR.out.kept hst.2 (.inr (fun e => hnR (by simpa [Value.ownBlock] using e))))
              have HBW1 := Lib.hid (HS.out.2.2.setCell (p := ⟨w.heap.size + 1 + 1, q, none⟩) (by simp; omega) (.bool true))
              clear hst
              go_wp2_with fail
              refine (cloneInt_any (some ⟨gR, 0, none⟩) len cR R.reverse _ (by rw [List.length_reverse]; exact HL.out.symm) (Rd.of_own HOR1.out) (by omega)).mono ?_
              rintro e w3 ⟨vc, rfl, oc, b3⟩
              have B3 := Lib.hid b3
              simp only [World.size_setCell] at b3 oc
              obtain ⟨gc, cc', rfl, hgc, hgc'⟩ := own_some' oc (by omega)
              have HN3 := Lib.hid (HN1.out.below B3.out)
              have HE3 := Lib.hid (own_below HE1.out B3.out)
              have HON3 := Lib.hid (own_below HON1.out B3.out)
              have HB3 := Lib.hid (HBW1.out.trans (B3.out.mono HBW1.out.size))
              have HOC := Lib.hid (fun o => oc.alloc o)
              have HN4 := Lib.hid (fun o => HN3.out.below ((Below.refl _ _).alloc (Nat.le_refl _) o))
              have HE4 := Lib.hid (fun o => HE3.out.alloc o)
              have HON4 := Lib.hid (fun o => HON3.out.alloc o)
              have HB4 := Lib.hid (fun o => HB3.out.alloc HB3.out.size o)
              have hs3 := b3.size
              simp only [World.size_setCell] at hs3
              clear oc
              go_wp2_with (at_builtin; go_must (refine wpList_app _ rfl (.tmp 70) (.tmp 72) 36 rfl wr.heap.size 3 _ 1 8 Try.underlying36 infoI rfl (by omega) _ _ _ rfl (HOC.out _) _ 1 1 [.int .i64 q] rfl rfl (rd_new #[.int .i64 q] 3 (by simp)) (oneCell_ints [(q : Int)]) (by unfold maxLen; omega) (by omega) (by simp; omega) ?_); intro v5 w5 o5 g5 d5; refine Hid.out ?_)
              simp only [World.size_alloc] at d5
              obtain ⟨g6, c6, rfl, hg6, hg6'⟩ := own_some' o5 (by omega)
              have HVC := Lib.hid (fun k (hk : (Value.slice (some ⟨gc, 0, none⟩) len cc').ownBlock = some k) => show wr.heap.size ≤ k by simp [Value.ownBlock] at hk; omega)
              have HN5 := Lib.hid ((HN4.out _).newer HVC.out HS.out.1 (Nat.le_refl _) g5)
              have HE5 := Lib.hid ((HE4.out _).kept g5 (rows_apart (fun k hk => (HE1.out.lt k hk).2) HVC.out (by simp)))
              have HON5 := Lib.hid ((HON4.out _).kept g5 (rows_apart (fun k hk => (HON.out.lt k hk).2) HVC.out (Nat.le_refl _)))
              have HB5 := Lib.hid ((HB4.out _).trans (below_app (HOC.out _) g5 (HB4.out _).size (by omega)))
              have HO5 := Lib.hid (show w5.ownsRow w.heap.size 3 1 (.slice (some ⟨g6, 0, none⟩) (len + 1) c6) ((q : Int) :: R).reverse.length (cells1 ((q : Int) :: R).reverse) from (by
                rw [List.reverse_cons, cells1_append, List.length_append, List.length_reverse, ← HL.out]; exact own_mono o5 (by omega)))
              have HN6 := Lib.hid (fun o => HN5.out.below ((Below.refl _ _).alloc (Nat.le_refl _) o))
              have HE6 := Lib.hid (fun o => HE5.out.alloc o)
              have HON6 := Lib.hid (fun o => HON5.out.alloc o)
              have HB6 := Lib.hid (fun o => HB5.out.alloc HB5.out.size o)
              have HO6 := Lib.hid (fun o => HO5.out.alloc o)
              have hs5 : wr.heap.size < w5.heap.size := by omega
              have HCV := Lib.hid (HN6.out (Obj.cells #[Value.slice (some ⟨g6, 0, none⟩) (len + 1) c6] 36)).1
              rw [List.length_map, ← HM.out] at HCV
              have h5w : w.heap.size ≤ w5.heap.size := HB5.out.size
              clear g5 d5 o5
              refine Lib.hid ?_
              go_wp2_with (at_builtin; go_must (refine wpList_app _ rfl (.tmp 65) (.tmp 74) 24 rfl w.heap.size 36 _ 1 24 Try.underlying24 infoIs rfl (by omega) _ _ _ rfl HCV.out _ 1 1 [Value.slice (some ⟨g6, 0, none⟩) (len + 1) c6] rfl rfl (rd_new #[Value.slice (some ⟨g6, 0, none⟩) (len + 1) c6] 36 (by simp)) (by intro u hu; simp at hu; subst hu; rfl) (by unfold maxLen; omega) (by omega) (by simp; omega) ?_); intro v7 w7 o7 g7 d7)
              have hXr : w.heap.size + 1 + 1 < wr.heap.size := (HS.out.2.1.lt _ rfl).2
              have hlq : (Q.map List.reverse).length = m := by rw [List.length_map, ← HM.out]
              have hpush := (HN6.out _).push (HO6.out _) (fun e => (show ¬ g6 = gV by omega) (Option.some.inj e)) (fun e => (show ¬ g6 = w.heap.size + 1 + 1 by omega) (Option.some.inj e)) (by rw [hlq]; exact o7) g7 d7 (by simp; omega)
              have hS7 : SRel w 36 3 4 v7 (CV ++ [Value.slice (some ⟨g6, 0, none⟩) (len + 1) c6]) (Q ++ [(q : Int) :: R]) w7 :=
                ⟨by rw [List.map_append]; exact hpush, (HE6.out _).kept g7 (.inr (fun e => HS.out.1.2.1 e.symm)), (HB6.out _).trans (below_app HCV.out g7 (HB6.out _).size (Nat.le_refl _))⟩
              have HS7 := Lib.hid hS7
              have HNV7 := Lib.hid (show (Value.slice (some ⟨gn, o, none⟩) L cn).ownBlock = none ∨ (Value.slice (some ⟨gn, o, none⟩) L cn).ownBlock ≠ v7.ownBlock from (by
                rcases d7 with d7 | d7
                · rw [d7]; exact HNV.out
                · rw [d7]; right; intro e; simp [Value.ownBlock] at e; omega))
              have HON7 := Lib.hid ((HON6.out _).kept g7 HNV.out)
              have HR7 := Lib.hid (show (Q ++ [(q : Int) :: R])[kk]? = some R by rw [List.getElem?_append_left (by have := HM.out; omega)]; exact HR.out)
              have HNO7 := Lib.hid (show ∀ (j : Nat) (S : List Int), j < kk → (Q ++ [(q : Int) :: R])[j]? = some S → hd S ≠ b from fun j S hj hS => HNO.out j S hj (by rw [List.getElem?_append_left (by have := HM.out; omega)] at hS; exact hS))
              clear hlq hpush hS7 g7 d7 o7
              go_roundw
              case rel => exact ⟨_, _, _, j + 1, rfl, by omega, by go_num, by rw [HTK.out]; exact HP.out, HR7.out, HNO7.out, HS7.out, HON7.out, HNV7.out⟩
              case measure => simp [intOf]; omega
          · have htk : (nbL xs day x).take j = nbL xs day x := List.take_of_length_le (by have := HLL.out; omega)
            rw [htk] at hB
            have HN := Lib.hid (hB.next hR (fun q hq => (mem_nbL HV.out).2 (by rw [HX.out]; exact hq)))
            have HNO' := Lib.hid (show ∀ (j : Nat) (S : List Int), j < kk + 1 → Q[j]? = some S → hd S ≠ b from fun i S hi hS => by
              rcases Nat.lt_or_ge i kk with h | h
              · exact HNO.out i S h hS
              · obtain rfl : i = kk := by omega
                rw [HR.out] at hS; injection hS with hS; subst hS; rw [← HX.out]; exact HXB.out)
            clear htk hB hR hno hS on hNV
            go_wp2
            go_roundw
            case rel => exact ⟨_, CV, Q, kk + 1, rfl, by omega, by go_num, HN.out, HNO'.out, HS.out⟩
            case measure => simp [intOf]; omega
    · have HE := Lib.hid (chV_none (adj := adjT xs day) (a := a) (b := b) (HB.out.none HG.out (by omega) HNO.out))
      have h1 := hS.1.1
      rw [List.length_map, ← hm] at h1
      obtain ⟨AV, cV, rfl⟩ := own_form h1
      clear h1 hm hS
      go_wp2
      go_ret2
      rw [HE.out]
      exact ⟨_, rfl, World.ownsRow_nil _ _ _ _, HS.out.2.2⟩
end Go.Proofs.Ytpmklcpplpnlhaa
