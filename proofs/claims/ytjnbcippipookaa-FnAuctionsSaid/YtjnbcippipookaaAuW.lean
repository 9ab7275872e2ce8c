/- An auction's steps: whether a step is valid; where a lot stands; insertion and deletion. -/
import Derived.Test.YtjnbcippipookaaAuP
import Derived.Test.YtjnbcippipookaaCmp
import Derived.Test.YtjnbcippipookaaIn
import Derived.Test.YtjnbcippipookaaSlcSale
import Derived.Test.YtjnbcippipookaaInsSale
import Derived.Deep.Light
namespace Go.Proofs.Ytjnbcippipookaa
set_option linter.unusedVariables false
set_option linter.unusedSimpArgs false
open Go.RowKit

theorem cells5_take (xs : List R5) (k : Nat) : cells5 (xs.take k) = (cells5 xs).take (k * 5) := by
  by_cases h : k ≤ xs.length
  · have e : cells5 xs = cells5 (xs.take k) ++ cells5 (xs.drop k) := by rw [← cells5_append, List.take_append_drop]
    rw [e, List.take_append_of_le_length (by rw [length_cells5, List.length_take]; omega)]
    exact (List.take_of_length_le (by rw [length_cells5, List.length_take]; omega)).symm
  · rw [List.take_of_length_le (show xs.length ≤ k by omega)]
    exact (List.take_of_length_le (by rw [length_cells5]; omega)).symm
theorem cells5_drop (xs : List R5) (k : Nat) : cells5 (xs.drop k) = (cells5 xs).drop (k * 5) := by
  have h1 : cells5 (xs.take k) ++ cells5 (xs.drop k) = (cells5 xs).take (k * 5) ++ (cells5 xs).drop (k * 5) := by rw [← cells5_append, List.take_append_drop, List.take_append_drop]
  rw [cells5_take] at h1
  exact List.append_cancel_left h1
theorem oneCell_x (x : R5) : ∀ u ∈ x.cells, u.oneCell' = true := fun u hu => oneCell_cells5 [x] u (by simpa [cells5] using hu)

/-- append, as one step of a region that draws its order. -/
theorem step_app {P : Program} {ops : Array Oper} {o : Oper} {a : Act} {w : World} {K : Act → World → Prop} {Q : Exit → Act → World → Prop} {E : Prop} (hgd : o.guard = none) (s x : Operand) (t : TypeId)
    (ho : o.op = .call { callee := .builtin .append, args := #[s, x], argTypes := #[t, t] })
    (base : Nat) (e : TypeId) (z : Value) (size bytes : Nat) (ht : P.underlying t = some (.slice e)) (hinfo : (P.info? e).map (fun i => (i.zero, i.size, i.bytes)) = some (some z, size, bytes))
    (hzs : z.cells.size = size) (hsz : 0 < size) (v : Value) (n : Nat) (xs : List Value) (hs : a.eval s = v) (hown : w.ownsRow base e size v n xs)
    (A : Option Addr) (m c : Nat) (news : List Value) (hx : a.eval x = .slice A m c) (hl : news.length = m * size) (hr : Rd w A news) (h1 : ∀ u ∈ news, u.oneCell' = true)
    (h63 : n + m ≤ maxLen) (hbytes : (n + m) * bytes ≤ 140737488355328) (hbase : base ≤ w.heap.size)
    (h : ∀ v' w', w'.ownsRow base e size v' (n + m) (xs ++ news) → w.grownBy w' v.ownBlock → (v'.ownBlock = v.ownBlock ∨ v'.ownBlock = some w.heap.size) → K (a.put o.dst v') w') :
    if Region.wanted o (yielded ops a.tmps) = true then Oper.wp P o a w K Q else E := by
  have hw : Region.wanted o (yielded ops a.tmps) = true := by simp [Region.wanted, hgd]
  rw [if_pos hw]
  exact wp_app w s x t ho base e z size bytes ht hinfo hzs hsz v n xs hs hown A m c news hx hl hr h1 h63 hbytes hbase h
theorem rd_dropT {w : World} {g o : Nat} {xs : List R5} (h : Rd w (some ⟨g, o, none⟩) (cells5 xs)) (k : Nat) : Rd w (some ⟨g, o + k * 5, none⟩) (cells5 (xs.drop k)) := by
  rcases h with h | ⟨g', o', e, hg, hc⟩
  · left
    rw [cells5_drop, h, List.drop_nil]
  · injection e with e
    injection e with e1 e2
    subst e1; subst e2
    refine .inr ⟨g, o + k * 5, rfl, hg, fun j v hv => ?_⟩
    rw [cells5_drop, List.getElem?_drop] at hv
    rw [Nat.add_assoc]
    exact hc _ v hv
theorem rd_takeT {w : World} {A : Option Addr} {xs : List R5} (h : Rd w A (cells5 xs)) (k : Nat) : Rd w A (cells5 (xs.take k)) := by
  have e : cells5 xs = cells5 (xs.take k) ++ cells5 (xs.drop k) := by rw [← cells5_append, List.take_append_drop]
  rw [e] at h
  exact Rd.prefix_ h
theorem own_empty' {w : World} {base e size b : Nat} (hb : b = w.heap.size) (hb2 : base ≤ w.heap.size) : (w.alloc (.cells #[] e)).ownsRow base e size (.slice (some ⟨b, 0, none⟩) 0 0) 0 [] := by
  subst hb; exact own_empty w base e size hb2
theorem rd_grown {w w' : World} {row : Option Nat} {g o : Nat} {cs : List Value} (hg : w.grownBy w' row) (h : Rd w (some ⟨g, o, none⟩) cs) (hlt : g < w.heap.size) (hne : some g ≠ row) : Rd w' (some ⟨g, o, none⟩) cs := by
  rcases h with h | ⟨g', o', e, hg', hc⟩
  · exact .inl h
  · injection e with e
    injection e with e1 e2
    subst e1; subst e2
    exact .inr ⟨g, o, rfl, Nat.lt_of_lt_of_le hg' hg.size, fun j v hv => (hg.cell_far ⟨g, o + j, none⟩ hg' hne).trans (hc j v hv)⟩

theorem cells5_split {xs : List R5} {k : Nat} {x : R5} (h : xs[k]? = some x) : cells5 xs = cells5 (xs.take k) ++ (x.cells ++ cells5 (xs.drop (k + 1))) ∧ (cells5 (xs.take k)).length = k * 5 := by
  have hk := (List.getElem?_eq_some_iff.1 h).1
  have hx : xs[k] = x := by rw [List.getElem?_eq_getElem hk] at h; injection h
  refine ⟨?_, by rw [length_cells5, List.length_take]; congr 1; omega⟩
  rw [← cells5_cons, ← hx, ← List.drop_eq_getElem_cons hk, ← cells5_append, List.take_append_drop]
theorem cells5_setIdx {xs : List R5} {k : Nat} {x y : R5} (h : xs[k]? = some x) : cells5 (xs.set k y) = cells5 (xs.take k) ++ (y.cells ++ cells5 (xs.drop (k + 1))) := by
  have hk := (List.getElem?_eq_some_iff.1 h).1
  rw [List.set_eq_take_append_cons_drop, if_pos hk, cells5_append, cells5_cons]
theorem setAll_cells5 {xs : List R5} {k : Nat} {x y : R5} (h : xs[k]? = some x) : setAll (cells5 xs) (k * 5) y.cells = cells5 (xs.set k y) := by
  obtain ⟨e, hl⟩ := cells5_split h
  rw [cells5_setIdx h, e]
  have := setAll_mid y.cells (cells5 (xs.take k)) x.cells (cells5 (xs.drop (k + 1))) rfl
  rwa [hl] at this
theorem own_some {w : World} {base e size n : Nat} {v : Value} {cs : List Value} (h : w.ownsRow base e size v n cs) (hn : 0 < n) : ∃ g c, v = .slice (some ⟨g, 0, none⟩) n c ∧ base ≤ g ∧ g < w.heap.size := by
  rcases h.2 with ⟨_, h0⟩ | ⟨g, cap, cur, hv, hb, hg, _⟩
  · omega
  · exact ⟨g, cap, hv, hb, (Array.getElem?_eq_some_iff.1 hg).1⟩

theorem setF_cells5 {xs : List R5} {k q : Nat} {x y : R5} {v : Value} (h : xs[k]? = some x) (hq : q < 5) (hv : x.cells.set q v = y.cells) : (cells5 xs).set (k * 5 + q) v = cells5 (xs.set k y) := by
  obtain ⟨e, hl⟩ := cells5_split h
  rw [cells5_setIdx h, e, List.set_append_right _ _ (by omega), hl, Nat.add_sub_cancel_left, List.set_append_left _ _ (by show q < 5; exact hq), hv]

/-! ### Whether a step is valid -/
set_option maxHeartbeats 2000000 in
theorem isAuctionStep_any (k i b v : Int) (w : World) :
    Calls Try.prog 19 #[.agg #[.int .i64 k, .int .i64 i, .int .i64 b, .int .i64 v]] w (Ret (.bool (stepB k i b v)) w) := by
  go_enter Try.func19, Try.ntmps19
  go_wp2_with (go_at_call 34; refine (inRange_any _ _ _ _).mono ?_; rintro e w' ⟨rfl, rfl⟩)
  all_goals
    go_ret
    refine ⟨ret_bool ?_, (Below.refl _ _).alloc (Nat.le_refl _) _⟩
    go_light
    grind [stepB, inR]

set_option maxHeartbeats 2000000 in
theorem l29Step_any (k i b v : Int) (w : World) :
    Calls Try.prog 22 #[.agg #[.int .i64 k, .int .i64 i, .int .i64 b, .int .i64 v]] w (Ret (.bool (stepB k i b v)) w) := by
  go_enter Try.func22, Try.ntmps22
  go_wp2_with (go_at_call 41; refine (l1In_any _ _ _ _).mono ?_; rintro e w' ⟨rfl, rfl⟩)
  all_goals
    go_ret
    refine ⟨ret_bool ?_, (Below.refl _ _).alloc (Nat.le_refl _) _⟩
    go_light
    grind [stepB, inR]

theorem auCmp_any (x : R5) (i : Int) (w : World) : Calls Try.prog 36 #[.agg #[.int .i64 x.a, .int .i64 x.b, .int .i64 x.c, .int .i64 x.d, .int .i64 x.e], .int .i64 i] w (Ret (.int .i64 (cmpV x.a i)) w) := by
  have C := Lib.hid (fun w => compareInt_any x.a i w)
  go_enter Try.func36, Try.ntmps36
  go_wp2_with fail
  refine (C.out _).mono ?_
  rintro e w' ⟨rfl, rfl⟩
  go_wp2
  go_ret
  exact ⟨rfl, (Below.refl _ _).alloc (Nat.le_refl _) _⟩

set_option maxRecDepth 20000 in
set_option maxHeartbeats 4000000 in
theorem binSale_any (A : Option Addr) (n c : Nat) (xs : List R5) (x : Int) (w : World) (hn : xs.length = n) (hA : Rd w A (cells5 xs)) (hv : auc xs = true) :
    Calls Try.prog 35 #[.slice A n c, .int .i64 x, .func (.func 36) #[] #[]] w (Ret (.tuple #[.int .i64 (posA xs x : Nat), .bool (hasA xs x)]) w) := by
  have HV := Lib.hid hv
  have h20 : n ≤ 8 := by have := auc_len hv; omega
  clear hv
  go_enter Try.func35, Try.ntmps35
  go_wp2_with fail
  go_loopw [9, 10, 11] (fun i j _ wr => ∃ (lo hi : Nat), i = .int .i64 lo ∧ j = .int .i64 hi ∧ lo ≤ hi ∧ hi ≤ n ∧ (∀ (t : Nat) (y : R5), t < lo → xs[t]? = some y → y.a < x) ∧ (∀ (t : Nat) (y : R5), hi ≤ t → xs[t]? = some y → x ≤ y.a) ∧ Below w.heap.size w wr) (fun i j _ _ => (intOf j - intOf i).toNat)
  case atStart => exact ⟨0, n, rfl, rfl, by omega, by omega, fun t y ht => by omega, fun t y ht hy => (by have := (List.getElem?_eq_some_iff.1 hy).1; omega), Below.refl _ _⟩
  case round =>
    obtain ⟨lo, hi, rfl, rfl, hlh, hhn, h1, h2, hbw⟩ := hrel
    have H1 := Lib.hid h1
    have H2 := Lib.hid h2
    clear h1 h2
    by_cases hlt : lo < hi
    · obtain ⟨y, hy⟩ : ∃ y, xs[(lo + hi) / 2]? = some y := ⟨xs[(lo + hi) / 2]'(by omega), List.getElem?_eq_getElem (by omega)⟩
      obtain ⟨g, o, hAe, hg, c0, c1, c2, c3, c4⟩ := (hA.below hbw).at5 hy
      have HY := Lib.hid hy
      have C1 := Lib.hid (fun w => auCmp_any y x w)
      have HC := Lib.hid (show cmpV y.a x < 0 ↔ y.a < x by unfold cmpV; split <;> (try split) <;> omega)
      obtain ⟨q, hq⟩ : ∃ q, q = cmpV y.a x := ⟨_, rfl⟩
      rw [← hq] at HC C1
      have hmid : (lo + hi) / 2 < n := by omega
      subst hAe
      clear hy hq
      go_wp2_with fail
      refine (C1.out _).mono ?_
      rintro e w1 ⟨rfl, b1⟩
      have HB1 := Lib.hid (hbw.trans (b1.mono hbw.size))
      clear c0 c1 c2 c3 c4
      by_cases hq : q < 0
      · have hqd : decide (q < 0) = true := by simp [hq]
        have HL := Lib.hid (HC.out.1 hq)
        go_wp2
        go_roundw
        case rel =>
          refine ⟨(lo + hi) / 2 + 1, hi, by rw [show ((lo : Int) + (hi : Int)) / 2 + 1 = (((lo + hi) / 2 + 1 : Nat) : Int) by omega], rfl, by omega, hhn, fun t z ht hz => ?_, H2.out, HB1.out⟩
          rcases Nat.lt_or_eq_of_le (show t ≤ (lo + hi) / 2 by omega) with h | h
          · have := auc_sorted HV.out h hz HY.out; have := HL.out; omega
          · subst h; rw [HY.out] at hz; injection hz with hz; subst hz; exact HL.out
        case measure => simp [intOf]; omega
      · have hqd : decide (q < 0) = false := by simp; omega
        have HL := Lib.hid (show x ≤ y.a from by have := mt HC.out.2 hq; omega)
        go_wp2
        go_roundw
        case rel =>
          refine ⟨lo, (lo + hi) / 2, rfl, by rw [show ((lo : Int) + (hi : Int)) / 2 = (((lo + hi) / 2 : Nat) : Int) by omega], by omega, by omega, H1.out, fun t z ht hz => ?_, HB1.out⟩
          rcases Nat.lt_or_eq_of_le ht with h | h
          · have := auc_sorted HV.out h HY.out hz; have := HL.out; omega
          · subst h; rw [HY.out] at hz; injection hz with hz; subst hz; exact HL.out
        case measure => simp [intOf]; omega
    · obtain rfl : hi = lo := by omega
      have HP := Lib.hid (posA_eq (i := x) (xs := xs) (k := hi) (by omega) H1.out (fun y hy => by have := H2.out hi y (Nat.le_refl _) hy; omega))
      by_cases hin : hi < n
      · have hd : decide (hi < n) = true := by simp [hin]
        obtain ⟨y, hy⟩ : ∃ y, xs[hi]? = some y := ⟨xs[hi], List.getElem?_eq_getElem (by omega)⟩
        obtain ⟨g, o, hAe, hg, c0, c1, c2, c3, c4⟩ := (hA.below hbw).at5 hy
        have C1 := Lib.hid (fun w => auCmp_any y x w)
        have HF : Hid ((cmpV y.a x == 0) = hasA xs x) := Lib.hid (by
          have h2 := H2.out hi y (Nat.le_refl _) hy
          by_cases he : y.a = x
          · have e1 : cmpV y.a x = 0 := by unfold cmpV; split <;> (try split) <;> omega
            have e2 : hasA xs x = true := by rw [hasA, List.any_eq_true]; exact ⟨y, List.mem_of_getElem? hy, by simp [atA, he]⟩
            rw [e1, e2]; rfl
          · have e1 : cmpV y.a x = 1 := by unfold cmpV; split <;> (try split) <;> omega
            have e2 : hasA xs x = false := by
              rw [hasA, List.any_eq_false]
              intro z hz
              obtain ⟨t, ht, rfl⟩ := List.getElem_of_mem hz
              have hz := List.getElem?_eq_getElem ht
              have : xs[t].a ≠ x := by
                rcases Nat.lt_trichotomy t hi with h | h | h
                · have := H1.out t _ h hz; omega
                · subst h; rw [hz] at hy; injection hy with hy; subst hy; exact he
                · have := auc_sorted HV.out h hy hz; omega
              simp [atA, this]
            rw [e1, e2]; rfl)
        obtain ⟨q, hq⟩ : ∃ q, q = cmpV y.a x := ⟨_, rfl⟩
        rw [← hq] at C1 HF
        subst hAe
        clear hy hq
        go_wp2_with fail
        refine (C1.out _).mono ?_
        rintro e w1 ⟨rfl, b1⟩
        go_wp2
        go_ret2
        exact ⟨by rw [HP.out, ← HF.out]; rfl, hbw.trans (b1.mono hbw.size)⟩
      · have hd : decide (hi < n) = false := by simp; omega
        have HF : Hid (hasA xs x = false) := Lib.hid (by
          rw [hasA, List.any_eq_false]
          intro z hz
          obtain ⟨t, ht, rfl⟩ := List.getElem_of_mem hz
          have := H1.out t _ (by omega) (List.getElem?_eq_getElem ht)
          have : xs[t].a ≠ x := by omega
          simp [atA, this])
        go_wp2
        go_ret2
        exact ⟨by rw [HP.out, HF.out]; rfl, hbw⟩

set_option maxHeartbeats 1000000 in
theorem l29Find_any (A : Option Addr) (n c : Nat) (xs : List R5) (id : Int) (w : World) (hn : xs.length = n) (hA : Rd w A (cells5 xs)) (h20 : n ≤ 1048576) :
    Calls Try.prog 43 #[.slice A n c, .int .i64 id] w (RetS (.int .i64 (idxV (atA id) xs)) w) := by
  go_enter Try.func43, Try.ntmps43
  go_wp2_with fail
  go_loopw [5, 4] (fun i r wr => ∃ (k : Nat), k ≤ n ∧ i = .int .i64 k ∧ r = .int .i64 0 ∧ (∀ (j : Nat) (y : R5), j < k → xs[j]? = some y → atA id y = false) ∧ w = wr) (fun i _ _ => n - (intOf i).toNat)
  case atStart => exact ⟨0, by omega, rfl, rfl, fun j y hj => by omega, rfl⟩
  case round =>
    obtain ⟨k, hk, rfl, rfl, hrel, rfl⟩ := hrel
    have HR := Lib.hid hrel
    clear hrel
    by_cases hlt : k < n
    · obtain ⟨x, hxk⟩ : ∃ x, xs[k]? = some x := ⟨xs[k], List.getElem?_eq_getElem (by omega)⟩
      obtain ⟨g, o, hAe, hg, c0, c1, c2, c3, c4⟩ := hA.at5 hxk
      subst hAe
      have HX := Lib.hid hxk
      clear hxk hA
      go_wp2
      · have h1 : (x.a == id) = true := by assumption
        go_ret
        exact ⟨ret_int (idxV_hit HR.out HX.out h1).symm, rfl⟩
      · have h1 : (x.a == id) = false := by assumption
        go_roundw
        case rel =>
          refine ⟨k + 1, by omega, by go_num, rfl, fun j y hj hy => ?_, trivial⟩
          rcases Nat.lt_or_ge j k with h | h
          · exact HR.out j y h hy
          · have : j = k := by omega
            subst this; rw [HX.out] at hy; injection hy with hy; subst hy; exact h1
        case measure => simp [intOf]; omega
    · go_wp2
      go_ret
      exact ⟨ret_int (idxV_miss (fun j y hy => HR.out j y (by have := (List.getElem?_eq_some_iff.1 hy).1; omega) hy)).symm, rfl⟩

theorem insSaleLot_any (base n i vb : Nat) (v : Value) (cs xc : List Value) (w : World) (ho : w.ownsRow base 36 5 v n cs) (hbase : base ≤ w.heap.size) (hi : i ≤ n) (h1c : ∀ u ∈ cs, u.oneCell' = true) (hv : w.heap[vb]? = some (.cells xc.toArray 36 (0, 0))) (hx : xc.length = 5) (h1x : ∀ u ∈ xc, u.oneCell' = true) (hvg : v.ownBlock ≠ some vb) (hn : n ≤ 1048576) :
    Calls Try.prog 38 #[v, .int .i64 i, .slice (some ⟨vb, 0, none⟩) 1 1] w (RetIns base 36 5 (n + 1) (cs.take (i * 5) ++ (xc ++ cs.drop (i * 5))) v.ownBlock w) := by
  rcases Nat.lt_or_eq_of_le hi with hlt | rfl
  · rcases ho.2 with ⟨rfl, h0⟩ | ⟨g, cap, cur, rfl, _, _, hnc, _⟩
    · omega
    · rcases Nat.lt_or_eq_of_le hnc with h | h
      · exact insSaleLot_room base n i g cap vb cs xc w ho hlt h h1c hv hx h1x (fun e => hvg (by rw [e]; rfl)) hn
      · subst h
        exact insSaleLot_grow base n i g vb cs xc w ho hbase hlt h1c hv hx h1x hn
  · have h := insSaleLot_end base i vb v cs xc w ho hbase hv hx h1x hn
    rw [List.take_of_length_le (by rw [ho.1]; exact Nat.le_refl _), List.drop_eq_nil_of_le (by rw [ho.1]; exact Nat.le_refl _), List.append_nil]
    exact h


/-! ### Deletion -/
section
open Go.Lib
theorem own_less {w : World} {base e size g n cap : Nat} {cs : List Value} (h : w.ownsRow base e size (.slice (some ⟨g, 0, none⟩) (n + 1) cap) (n + 1) cs) : w.ownsRow base e size (.slice (some ⟨g, 0, none⟩) n cap) n (cs.take (n * size)) := by
  have hl := h.1
  obtain ⟨hnc, hcm, cur, hcur, hcsz⟩ := own_cap h
  rcases h.2 with ⟨h', _⟩ | ⟨g', cap', cur', h', hb, hg, _, _, hcs, htake⟩
  · cases h'
  · injection h' with e1 e2 e3
    injection e1 with e1
    injection e1 with e1 _
    subst e1; subst e3
    have hle : n * size ≤ (n + 1) * size := Nat.mul_le_mul_right _ (Nat.le_succ _)
    refine ⟨by rw [List.length_take]; omega, .inr ⟨g, cap, cur', rfl, hb, hg, by omega, hcm, hcs, ?_⟩⟩
    rw [← htake, List.take_take, Nat.min_eq_left hle]
theorem run_clear_one {P : Program} (w : World) (t e ty : TypeId) (z : Value) (cs : List Value) (ht : P.underlying t = some (.slice e)) (hv : ∀ w, (zeroValue e).run P w = .ok z w) (hz : (Builtin.zeroCells z.cells 1).toList = cs) (h1 : ∀ u ∈ cs, u.oneCell' = true) (b o c : Nat)
    (hc : ∀ j, j < cs.length → (w.cell? ⟨b, o + j, none⟩).isSome = true) (hf : ∀ j, j < cs.length → w.frozen? ⟨b, o + j, none⟩ = false) :
    (Builtin.clear_ #[t] ty #[.slice (some ⟨b, o, none⟩) 1 c]).run P w = .ok (.tuple #[]) (w.setCells b o cs) := by
  have hst := run_storeCells_cells (P := P) b o cs 0 w (by simpa using hc) (by simpa using hf) h1
  simp only [Nat.add_zero] at hst
  simp [Builtin.clear_, run_underlying ht, hv, hz, hst]
theorem del_cells {cs z : List Value} {n k : Nat} (hl : cs.length = (n + 1) * 5) (hk : k ≤ n) (hz : z.length = 5) : (setAll (setAll cs (k * 5) (cs.drop ((k + 1) * 5))) (n * 5) z).take (n * 5) = cs.take (k * 5) ++ cs.drop ((k + 1) * 5) := by
  have hp : (cs.take (k * 5)).length = k * 5 := by rw [List.length_take]; omega
  have e1 := setAll_mid (cs.drop ((k + 1) * 5)) (cs.take (k * 5)) ((cs.drop (k * 5)).take ((n - k) * 5)) ((cs.drop (k * 5)).drop ((n - k) * 5)) (by rw [List.length_take, List.length_drop, List.length_drop]; omega)
  rw [hp, List.take_append_drop, List.take_append_drop] at e1
  rw [e1]
  have hp2 : (cs.take (k * 5) ++ cs.drop ((k + 1) * 5)).length = n * 5 := by rw [List.length_append, hp, List.length_drop]; omega
  have e2 := setAll_mid z (cs.take (k * 5) ++ cs.drop ((k + 1) * 5)) ((cs.drop (k * 5)).drop ((n - k) * 5)) [] (by rw [List.length_drop, List.length_drop]; omega)
  rw [hp2, List.append_nil, List.append_nil, List.append_assoc] at e2
  rw [e2, List.take_left' hp2]

set_option maxRecDepth 100000 in
set_option maxHeartbeats 4000000 in
theorem delSaleLot_any (base n k j g cap : Nat) (cs : List Value) (w : World) (ho : w.ownsRow base 36 5 (.slice (some ⟨g, 0, none⟩) (n + 1) cap) (n + 1) cs) (hk : k ≤ n) (hj : j = k + 1) (h1c : ∀ u ∈ cs, u.oneCell' = true) (hn : n ≤ 1048576) :
    Calls Try.prog 39 #[.slice (some ⟨g, 0, none⟩) (n + 1) cap, .int .i64 k, .int .i64 j] w (RetIns base 36 5 n (cs.take (k * 5) ++ cs.drop (j * 5)) (some g) w) := by
  obtain ⟨hnc, hcm, cur, hcur, hcsz⟩ := own_cap ho
  have hcl := ho.1
  obtain ⟨i0, hi0, hz0, hz1, hz2⟩ := info_parts info36
  have hsp : ∀ t, t < (n + 1) * 5 → (w.cell? ⟨g, t, none⟩).isSome = true := fun t ht => by rw [ho.cellAt t ht, List.getElem?_eq_getElem (by rw [hcl]; exact ht)]; rfl
  have hcc : ∀ t u, cs[t]? = some u → w.cell? ⟨g, t, none⟩ = some u := fun t u hu => by rw [ho.cellAt t (by have := (List.getElem?_eq_some_iff.1 hu).1; omega)]; exact hu
  obtain ⟨news, hnews⟩ : ∃ news, news = cs.drop (j * 5) := ⟨_, rfl⟩
  have hlen : news.length = (n - k) * 5 := by rw [hnews, List.length_drop]; omega
  obtain ⟨A, hA, hsrc⟩ : ∃ A : Addr, (if cap = j then some (⟨g, 0, none⟩ : Addr) else some ⟨g, j * 5, none⟩) = some A ∧ Hid (∀ t u, news[t]? = some u → w.drew.cell? (A.add t) = some u) := by
    by_cases h : cap = j
    · refine ⟨⟨g, 0, none⟩, by simp [h], fun t u hu => ?_⟩
      have h0 : news.length = 0 := by rw [hlen]; omega
      rw [List.length_eq_zero_iff.1 h0] at hu
      simp at hu
    · refine ⟨⟨g, j * 5, none⟩, by simp [h], fun t u hu => ?_⟩
      rw [hnews, List.getElem?_drop] at hu
      rw [Addr.add_mid]
      exact hcc _ u hu
  have s2 : Hid (∀ u ∈ news, u.oneCell' = true) := fun u hu => h1c u (by rw [hnews] at hu; exact List.mem_of_mem_drop hu)
  have s3 : Hid (∀ t, t < news.length → (w.drew.cell? ⟨g, 0 + k * 5 + t, none⟩).isSome = true ∧ w.drew.frozen? ⟨g, 0 + k * 5 + t, none⟩ = false) := by
    intro t ht
    rw [hlen] at ht
    exact ⟨hsp _ (by omega), ho.frozenAt _⟩
  have s1 := Lib.hid hlen
  obtain ⟨o1, g1⟩ := own_setCells news (drew_own ho) (k * 5)
  obtain ⟨W1, hW1⟩ : ∃ W1, W1 = w.drew.setCells g (k * 5) news := ⟨_, rfl⟩
  rw [← hW1] at o1 g1
  have hcl1 : ∀ ty, (Builtin.clear_ #[24] ty #[.slice (some ⟨g, n * 5, none⟩) 1 (cap - n)]).run Try.prog W1 = .ok (.tuple #[]) (W1.setCells g (n * 5) [.int .i64 0, .int .i64 0, .int .i64 0, .int .i64 0, .int .i64 0]) := fun ty =>
    run_clear_one W1 24 36 ty _ [.int .i64 0, .int .i64 0, .int .i64 0, .int .i64 0, .int .i64 0] Try.underlying24 Try.zeroValue36 (by kernel_rfl) (fun u hu => ints_oneCell .i64 [0, 0, 0, 0, 0] u hu) g (n * 5) (cap - n) (fun t ht => by rw [o1.cellAt _ (by simp at ht; omega), List.getElem?_eq_getElem (by rw [o1.1]; simp at ht; omega)]; rfl) (fun j _ => o1.frozenAt _)
  obtain ⟨o2, g2⟩ := own_setCells [.int .i64 0, .int .i64 0, .int .i64 0, .int .i64 0, .int .i64 0] o1 (n * 5)
  have o3 := own_less o2
  rw [hnews, hj, del_cells hcl hk rfl, ← hj] at o3
  have HO3 := Lib.hid o3
  have HG := Lib.hid (World.grownBy.trans (show w.grownBy W1 (some g) from ⟨g1.os, g1.tape, g1.output, g1.size, g1.block⟩) g2)
  have hW : Hid (W1 = w.drew.setCells g (0 + k * 5) news) := Lib.hid (by rw [Nat.zero_add]; exact hW1)
  have hcm2 : cap ≤ 9223372036854775807 := by unfold maxLen at hcm; omega
  have hne : ¬ (k : Int) = (j : Int) := by omega
  have hne2 : ¬ k = j := by omega
  have mixed : Try.prog.follows Departure.mixedOrders = true := by kernel_rfl
  have hkj : k ≤ j := by omega
  have hjn : (j : Int) ≤ (n : Int) + 1 := by omega
  have hkc : k ≤ cap := by omega
  have hkc1 : j ≤ cap := by omega
  have hcn : ¬ cap = n := by omega
  have hck : ¬ cap = k := by omega
  have hknk : k + (n - k) = n := by omega
  have hn1k : n + 1 - j = n - k := by omega
  have hnn : n + 1 - n = 1 := by omega
  clear hj hW1 o1 g1 o2 g2 o3 hsp hcc hcur hcsz hcl ho h1c hnews hlen hcm
  go_enter Try.func39, Try.ntmps39
  go_wp2_with fail
  go_region_law_o (refine step_append_room rfl (.tmp 22) (.tmp 25) 24 rfl 36 i0 5 Try.underlying24 hi0 hz1 g 0 k cap (by simp [Act.eval, Act.put]) A (n - k) (cap - j) news (by simp [Act.eval, Act.put]) s1.out hsrc.out s2.out (by omega) s3.out ?_; rw [← hW.out])
  go_wp2
  go_ret
  exact ⟨_, rfl, HO3.out, HG.out⟩
end
end Go.Proofs.Ytjnbcippipookaa
