/- Approvals: the marks of a list, and the reading of marks. -/
import Derived.Test.YtaobhehjoijpiaaAppT
namespace Go.Proofs.Ytaobhehjoijpiaa
set_option linter.unusedVariables false
set_option linter.unusedSimpArgs false
open Go.RowKit

theorem digsV_len : ∀ (m f k : Nat) (s : List UInt8), k < 10 ^ m → (digsV f k s).length ≤ m + s.length
  | m, 0, k, s, _ => by simp [digsV]
  | 0, f + 1, k, s, h => by
    have : k = 0 := by simpa using h
    simp [digsV, this]
  | m + 1, f + 1, k, s, h => by
    simp only [digsV]
    split
    · omega
    · have := digsV_len m f (k / 10) ((48 + k % 10).toUInt8 :: s) (by rw [Nat.pow_succ] at h; omega)
      simp only [List.length_cons] at this; omega
theorem tmV_size {k : Int} (h : k ≤ 1000000000000) : (tmV k).size ≤ 64 := by
  unfold tmV
  split
  · show 2 ≤ 64; omega
  · have := digsV_len 13 k.toNat k.toNat [] (by have : (10 : Nat) ^ 13 = 10000000000000 := by decide
                                                omega)
    show (109 :: digsV k.toNat k.toNat []).toArray.size ≤ 64
    simp only [List.size_toArray, List.length_cons]; simp at this; omega

/-- A row's cells. -/
def row6 (x : AR) (a b : Value) : List Value := [.int .i64 x.id, .string x.client, .int .i64 x.sent, a, b, .int .i64 x.back]
theorem cellsA_split : ∀ {L : List AR} {V1 : List Value} (x : AR) (R : List AR) (a b : Value) (V2 : List Value), V1.length = 2 * L.length → cellsA (L ++ x :: R) (V1 ++ a :: b :: V2) = cellsA L V1 ++ (row6 x a b ++ cellsA R V2)
  | [], [], _, _, _, _, _, _ => rfl
  | [], _ :: _, _, _, _, _, _, h => by simp at h
  | _ :: _, [], _, _, _, _, _, h => by simp at h
  | _ :: _, [_], _, _, _, _, _, h => by simp at h; omega
  | y :: L, u :: v :: V1, x, R, a, b, V2, h => by
    simp only [List.cons_append, cellsA]
    rw [cellsA_split x R a b V2 (by simp only [List.length_cons] at h; omega)]
theorem innA_split : ∀ (L : List AR) (x : AR) (R : List AR), innA (L ++ x :: R) = innA L ++ x.items :: x.kept :: innA R
  | [], _, _ => rfl
  | y :: L, x, R => by simp only [List.cons_append, innA, innA_split L x R]
theorem set_mid6 {α : Type} {l : List α} {p d : Nat} (hl : l.length = p) {m r : List α} (hd : d < m.length) (v : α) : (l ++ (m ++ r)).set (p + d) v = l ++ (m.set d v ++ r) := by
  subst hl
  rw [List.set_append_right _ _ (by omega), show l.length + d - l.length = d by omega, List.set_append_left _ _ hd]

theorem OwnA.store {w : World} {lo E EI g n cap i : Nat} {x : AR} {L R : List AR} {V1 V2 : List Value} {a b : Value} (h : OwnA w lo E EI (.slice (some ⟨g, 0, none⟩) n cap) (L ++ x :: R) (V1 ++ a :: b :: V2)) (hi : L.length = i) (h1 : V1.length = 2 * i) (hn : (L ++ x :: R).length = n)
    (y : AR) (d : Nat) (val : Value) (hd6 : d < 6) (hd : row6 y a b = (row6 x a b).set d val) (hy1 : y.items = x.items) (hy2 : y.kept = x.kept) (hyc : y.client.size ≤ maxLen) :
    OwnA (w.setCell ⟨g, i * 6 + d, none⟩ val) lo E EI (.slice (some ⟨g, 0, none⟩) n cap) (L ++ y :: R) (V1 ++ a :: b :: V2) ∧ w.grownBy (w.setCell ⟨g, i * 6 + d, none⟩ val) (some g) := by
  obtain ⟨hl, hr, hi', ha, hc⟩ := h
  rw [hn] at hr
  have h1' : V1.length = 2 * L.length := by omega
  have hyn : (L ++ y :: R).length = n := by rw [← hn]; simp
  obtain ⟨s1, s2⟩ := hr.stored (i * 6 + d) val
  have hin : innA (L ++ y :: R) = innA (L ++ x :: R) := by rw [innA_split, innA_split, hy1, hy2]
  have hcl : (cellsA L V1).length = i * 6 := by rw [length_cellsA h1', hi]
  have hcs : cellsA (L ++ y :: R) (V1 ++ a :: b :: V2) = (cellsA (L ++ x :: R) (V1 ++ a :: b :: V2)).set (i * 6 + d) val := by
    rw [cellsA_split y R a b V2 h1', cellsA_split x R a b V2 h1', set_mid6 hcl (by simpa [row6] using hd6), hd]
  refine ⟨⟨by rw [hl]; simp, ?_, fun j zs u hz hu => ?_, ha, fun z hz => ?_⟩, s2⟩
  · rw [hcs, hyn]; exact s1
  · rw [hin] at hz
    exact (hi' j zs u hz hu).kept s2 (ha.ne (i := j + 1) (j := 0) (by omega) (by simpa using hu) rfl)
  · rcases List.mem_append.1 hz with hz | hz
    · exact hc z (List.mem_append_left _ hz)
    · rcases List.mem_cons.1 hz with rfl | hz
      · exact hyc
      · exact hc z (List.mem_append_right _ (List.mem_cons_of_mem _ hz))
theorem OwnA.inner {w w' : World} {lo E EI : Nat} {v u : Value} {x : AR} {L R : List AR} {V1 V2 : List Value} {a b : Value} (h : OwnA w lo E EI v (L ++ x :: R) (V1 ++ a :: b :: V2)) (h1 : V1.length = 2 * L.length)
    (y : AR) (j : Nat) (zs : List Int) (hd : row6 y a b = row6 x a b) (hj : innA (L ++ y :: R) = (innA (L ++ x :: R)).set j zs) (hu : (V1 ++ a :: b :: V2)[j]? = some u) (ho : w'.ownsRow lo EI 1 u zs.length (cells1 zs)) (hg : w.grownBy w' u.ownBlock) (hyc : y.client.size ≤ maxLen) :
    OwnA w' lo E EI v (L ++ y :: R) (V1 ++ a :: b :: V2) := by
  obtain ⟨hl, hr, hi', ha, hc⟩ := h
  have hyn : (L ++ y :: R).length = (L ++ x :: R).length := by simp
  have hcs : cellsA (L ++ y :: R) (V1 ++ a :: b :: V2) = cellsA (L ++ x :: R) (V1 ++ a :: b :: V2) := by rw [cellsA_split y R a b V2 h1, cellsA_split x R a b V2 h1, hd]
  refine ⟨by rw [hl, hyn], ?_, fun q zs' u' hz hu' => ?_, ha, fun z hz => ?_⟩
  · rw [hcs, hyn]
    exact hr.kept hg (ha.ne (i := 0) (j := j + 1) (by omega) rfl (by simpa using hu))
  · rw [hj] at hz
    by_cases e : j = q
    · subst e
      have hjl : j < (innA (L ++ x :: R)).length := by have := (List.getElem?_eq_some_iff.1 hz).1; simpa using this
      rw [List.getElem?_set_self hjl] at hz
      obtain rfl : zs = zs' := Option.some.inj hz
      obtain rfl : u = u' := Option.some.inj (hu.symm.trans hu')
      exact ho
    · rw [List.getElem?_set_ne e] at hz
      exact (hi' q zs' u' hz hu').kept hg (ha.ne (i := q + 1) (j := j + 1) (by omega) (by simpa using hu') (by simpa using hu))
  · rcases List.mem_append.1 hz with hz | hz
    · exact hc z (List.mem_append_left _ hz)
    · rcases List.mem_cons.1 hz with rfl | hz
      · exact hyc
      · exact hc z (List.mem_append_right _ (List.mem_cons_of_mem _ hz))
theorem OwnA.cells {w : World} {lo E EI g n cap i : Nat} {x : AR} {L R : List AR} {V1 V2 : List Value} {a b : Value} (h : OwnA w lo E EI (.slice (some ⟨g, 0, none⟩) n cap) (L ++ x :: R) (V1 ++ a :: b :: V2)) (hi : L.length = i) (h1 : V1.length = 2 * i) (hn : (L ++ x :: R).length = n) :
    (∀ d v, (row6 x a b)[d]? = some v → w.cell? ⟨g, i * 6 + d, none⟩ = some v) ∧ (∀ d, w.frozen? ⟨g, i * 6 + d, none⟩ = false) ∧ g < w.heap.size := by
  have hr := h.2.1
  rw [hn] at hr
  have hcl : (cellsA L V1).length = i * 6 := by rw [length_cellsA (by omega), hi]
  have hin : i < n := by rw [← hn]; simp; omega
  refine ⟨fun d v hd => ?_, fun d => hr.frozenAt _, (hr.lt g rfl).2⟩
  have hd6 : d < 6 := by have := (List.getElem?_eq_some_iff.1 hd).1; simpa [row6] using this
  rw [hr.cellAt (i * 6 + d) (by omega), cellsA_split x R a b V2 (by omega), List.getElem?_append_right (by omega), hcl, show i * 6 + d - i * 6 = d by omega, List.getElem?_append_left (by simpa [row6] using hd6)]
  exact hd

/-! ### Marks -/
def rowM (k : Int) (x : AR) : AR := ⟨k, tmV (k + 1), k + 1 + 1, marks1 (k + 1 + 1 + 1) x.items.length, marks1 (k + 1 + 1 + 1 + x.items.length) x.kept.length, k + 1 + 1 + 1 + x.items.length + x.kept.length⟩
def markA : Int → List AR → List AR
  | _, [] => []
  | k, x :: xs => rowM k x :: markA (k + (4 + x.items.length + x.kept.length : Nat)) xs
theorem length_markA : ∀ (xs : List AR) (k : Int), (markA k xs).length = xs.length
  | [], _ => rfl
  | x :: xs, k => by simp [markA, length_markA xs]
theorem szA_take {xs : List AR} {i : Nat} {x : AR} (h : xs[i]? = some x) : szA (xs.take (i + 1)) = szA (xs.take i) + (4 + x.items.length + x.kept.length) := by
  induction xs generalizing i with
  | nil => simp at h
  | cons y ys ih =>
    cases i with
    | zero => simp at h; subst h; simp [szA]
    | succ i =>
      simp only [List.take_succ_cons, szA]
      rw [ih (by simpa using h)]; omega
theorem szA_take_le (xs : List AR) (i : Nat) : szA (xs.take i) ≤ szA xs := by
  induction xs generalizing i with
  | nil => simp [szA]
  | cons y ys ih =>
    cases i with
    | zero => simp [szA]
    | succ i => simp only [List.take_succ_cons, szA]; have := ih i; omega
theorem markA_take {xs : List AR} {i : Nat} {x : AR} (k : Int) (h : xs[i]? = some x) :
    markA k (xs.take (i + 1)) = markA k (xs.take i) ++ [rowM (k + szA (xs.take i)) x] := by
  induction xs generalizing i k with
  | nil => simp at h
  | cons y ys ih =>
    cases i with
    | zero => simp at h; subst h; simp [markA, szA]
    | succ i =>
      simp only [List.take_succ_cons, markA, szA, List.cons_append]
      rw [ih _ (by simpa using h)]
      have e : k + ((4 + y.items.length + y.kept.length : Nat) : Int) + (szA (ys.take i) : Int) = k + ((4 + y.items.length + y.kept.length + szA (ys.take i) : Nat) : Int) := by omega
      rw [e]
theorem markA_get {xs : List AR} {i : Nat} {x : AR} (k : Int) (h : xs[i]? = some x) : (markA k xs)[i]? = some (rowM (k + szA (xs.take i)) x) := by
  induction xs generalizing i k with
  | nil => simp at h
  | cons y ys ih =>
    cases i with
    | zero => simp at h; subst h; simp [markA, szA]
    | succ i =>
      simp only [List.take_succ_cons, markA, szA, List.getElem?_cons_succ]
      rw [ih _ (by simpa using h)]
      have e : k + ((4 + y.items.length + y.kept.length : Nat) : Int) + (szA (ys.take i) : Int) = k + ((4 + y.items.length + y.kept.length + szA (ys.take i) : Nat) : Int) := by omega
      rw [e]
theorem szA_take_lt {xs : List AR} {i : Nat} {x : AR} (h : xs[i]? = some x) : szA (xs.take i) + (4 + x.items.length + x.kept.length) ≤ szA xs := by
  have := szA_take h; have := szA_take_le xs (i + 1); omega
/-- What a marking loop leaves behind i rows. -/
def MarkRelA (W : World) (lo E EI : Nat) (v : Value) (xs : List AR) (vs : List Value) (k0 : Int) (i : Nat) (wr : World) : Prop :=
  OwnA wr lo E EI v (markA k0 (xs.take i) ++ xs.drop i) vs ∧ Only (inB v vs) W wr
/-- After a marking loop: what it returns, the marked list, that nothing else was written. -/
def RetMarkA (r : Int) (lo E EI : Nat) (v : Value) (xs : List AR) (vs : List Value) (W : World) : Ending → World → Prop := fun e w' => e = .returned (.int .i64 r) ∧ OwnA w' lo E EI v xs vs ∧ Only (inB v vs) W w'
theorem split2 {vs : List Value} {k n : Nat} (hl : vs.length = 2 * n) (hk : k < n) : ∃ V1 a b V2, vs = V1 ++ a :: b :: V2 ∧ V1.length = 2 * k := by
  refine ⟨vs.take (2 * k), vs[2 * k], vs[2 * k + 1], vs.drop (2 * k + 2), ?_, by rw [List.length_take]; omega⟩
  rw [← drop_cons (List.getElem?_eq_getElem (by omega)), ← drop_cons (List.getElem?_eq_getElem (by omega)), List.take_append_drop]

set_option maxHeartbeats 4000000 in
set_option maxRecDepth 20000 in
theorem markApprovalS_any (lo : Nat) (A : Option Addr) (cap : Nat) (xs : List AR) (vs : List Value) (k0 : Int) (w : World) (ho : OwnA w lo 60 3 (.slice A xs.length cap) xs vs) (h20 : xs.length ≤ 1048576) (hw : ∀ x ∈ xs, smA x) (hs : szA xs ≤ 5242880) (hk0 : 0 ≤ k0) (hk1 : k0 ≤ 500000000000) :
    Calls Try.prog 24 #[.slice A xs.length cap, .int .i64 k0] w (RetMarkA (k0 + (szA xs : Nat)) lo 60 3 (.slice A xs.length cap) (markA k0 xs) vs w) := by
  obtain ⟨n, hn⟩ : ∃ n, n = xs.length := ⟨_, rfl⟩
  rw [← hn] at ho h20 ⊢
  have HN := Lib.hid hn
  rcases ho.2.1.2 with ⟨hv, h0⟩ | ⟨g, cap', cur, hv, _⟩
  · injection hv with e1 e2 e3
    subst e1; subst e2; subst e3
    have hx0 : xs = [] := List.eq_nil_of_length_eq_zero hn.symm
    subst hx0
    clear hn HN
    go_enter Try.func24, Try.ntmps24
    go_wp2_with fail
    refine wp_loop_rounds 1 ?_
    rw [rounds_succ]
    go_wp2
    go_ret
    exact ⟨ret_int (by simp [szA]), ho, Only.refl _ w⟩
  · injection hv with e1 e2 e3
    subst e1; subst e3
    clear hn e2
    go_enter Try.func24, Try.ntmps24
    go_wp2_with fail
    go_loopw [1, 5] (fun q i wr => ∃ k p : Nat, k ≤ n ∧ i = .int .i64 k ∧ q = .int .i64 (k0 + (p : Nat)) ∧ p = szA (xs.take k) ∧ MarkRelA w lo 60 3 (.slice (some ⟨g, 0, none⟩) n cap) xs vs k0 k wr) (fun _ i _ => n - (intOf i).toNat)
    case atStart => exact ⟨0, 0, Nat.zero_le _, rfl, by simp, rfl, by simpa [markA] using ho, Only.refl _ w⟩
    case round =>
      obtain ⟨k, p, hk, rfl, rfl, hp, hrel⟩ := hrel
      have hle := szA_take_le xs k
      rw [← hp] at hle
      have HP := Lib.hid hp
      by_cases hlt : k < n
      · obtain ⟨x, hxk⟩ : ∃ x, xs[k]? = some x := ⟨xs[k]'(by have := HN.out; omega), List.getElem?_eq_getElem _⟩
        obtain ⟨V1, a, b, V2, rfl, hV1⟩ := split2 (k := k) ho.1 (by have := HN.out; omega)
        obtain ⟨-, hwi, hwk⟩ := hw x (List.mem_of_getElem? hxk)
        obtain ⟨L, hL⟩ : ∃ L, L = markA k0 (xs.take k) := ⟨_, rfl⟩
        have hkl : L.length = k := by rw [hL, length_markA, List.length_take]; have := HN.out; omega
        obtain ⟨o0, only0⟩ := hrel
        rw [drop_cons hxk, ← hL] at o0
        have hlen : ∀ y : AR, (L ++ y :: xs.drop (k + 1)).length = n := fun y => by rw [List.length_append, hkl, List.length_cons, List.length_drop]; have := HN.out; omega
        have hsb := szA_take_lt hxk
        have HSB := Lib.hid (szA_take hxk)
        have HMT := Lib.hid (markA_take k0 hxk)
        rw [← hp] at hsb HSB HMT
        have hp1 : p + 4 ≤ 8388608 := by omega
        obtain ⟨cf0, cz0, hgw⟩ := o0.cells hkl hV1 (hlen x)
        have hxc := o0.2.2.2.2 x (by simp)
        obtain ⟨o1, g1⟩ := o0.store hkl hV1 (hlen x) ⟨k0 + p, x.client, x.sent, x.items, x.kept, x.back⟩ 0 (.int .i64 (k0 + p)) (by omega) rfl rfl rfl hxc
        have a0 := cf0 0 _ rfl
        have z0 := cz0 0
        simp only [Nat.add_zero] at a0 z0 o1 g1
        have ON := Lib.hid only0
        have O1 := Lib.hid o1
        have G1 := Lib.hid g1
        have HLEN := Lib.hid hlen
        have HV1 := Lib.hid hV1
        have HKL := Lib.hid hkl
        have HLD := Lib.hid hL
        clear o0 o1 g1 only0 cf0 cz0 hlen hxk hw hxc hL ho hs hp
        have CT := Lib.hid (fun w => markText_any (k0 + p + 1) w (by omega) (by omega))
        go_wp2_with fail
        refine (CT.out _).mono ?_
        rintro e w1 ⟨rfl, b1⟩
        have o1 := O1.out.below b1
        obtain ⟨cf1, cz1, hgw1⟩ := o1.cells HKL.out HV1.out (HLEN.out _)
        obtain ⟨o2, g2⟩ := o1.store HKL.out HV1.out (HLEN.out _) ⟨k0 + p, tmV (k0 + p + 1), x.sent, x.items, x.kept, x.back⟩ 1 (.string (tmV (k0 + p + 1))) (by omega) rfl rfl rfl (Nat.le_trans (tmV_size (by omega)) (by unfold maxLen; omega))
        obtain ⟨o3, g3⟩ := o2.store HKL.out HV1.out (HLEN.out _) ⟨k0 + p, tmV (k0 + p + 1), k0 + p + 1 + 1, x.items, x.kept, x.back⟩ 2 (.int .i64 (k0 + p + 1 + 1)) (by omega) rfl rfl rfl (Nat.le_trans (tmV_size (by omega)) (by unfold maxLen; omega))
        have a1 := cf1 1 _ rfl
        have z1 := cz1 1
        obtain ⟨cf2, cz2, hgw2⟩ := o2.cells HKL.out HV1.out (HLEN.out _)
        have a2 := cf2 2 _ rfl
        have z2 := cz2 2
        obtain ⟨cf3, cz3, hgw3⟩ := o3.cells HKL.out HV1.out (HLEN.out _)
        have ua := o3.2.2.1 (2 * k) x.items a (by rw [innA_split, List.getElem?_append_right (by rw [innA_len, HKL.out]; omega), innA_len, HKL.out]; simp) (by rw [List.getElem?_append_right (by rw [HV1.out]; omega), HV1.out]; simp)
        obtain ⟨Aa, ca, rfl⟩ := own_form ua
        have a3 := cf3 3 _ rfl
        have UA := Lib.hid ua
        have O3 := Lib.hid o3
        have G2 := Lib.hid g2
        have G3 := Lib.hid g3
        have B1 := Lib.hid b1
        clear o1 o2 o3 g2 g3 cf1 cf2 cf3 cz1 cz2 cz3 ua b1
        go_wp2_with fail
        refine (markIntS_any lo x.items.length _ (cells1 x.items) (k0 + p + 1 + 1 + 1) _ UA.out hwi (by omega) (by omega)).mono ?_
        rintro e w2 ⟨rfl, om, bg⟩
        have o4 := O3.out.inner (by rw [HV1.out, HKL.out]) ⟨k0 + p, tmV (k0 + p + 1), k0 + p + 1 + 1, marks1 (k0 + p + 1 + 1 + 1) x.items.length, x.kept, x.back⟩ (2 * k) (marks1 (k0 + p + 1 + 1 + 1) x.items.length) rfl (by rw [innA_split, innA_split, List.set_append_right _ _ (by rw [innA_len, HKL.out]; omega), innA_len, HKL.out, Nat.sub_self]; rfl)
          (u := .slice Aa x.items.length ca) (by rw [List.getElem?_append_right (by rw [HV1.out]; omega), HV1.out, Nat.sub_self]; rfl) (by simpa [length_marks1] using om) bg (Nat.le_trans (tmV_size (by omega)) (by unfold maxLen; omega))
        obtain ⟨cf4, cz4, hgw4⟩ := o4.cells HKL.out HV1.out (HLEN.out _)
        have ub := o4.2.2.1 (2 * k + 1) x.kept b (by rw [innA_split, List.getElem?_append_right (by rw [innA_len, HKL.out]; omega), innA_len, HKL.out, show 2 * k + 1 - 2 * k = 1 by omega]; rfl) (by rw [List.getElem?_append_right (by rw [HV1.out]; omega), HV1.out, show 2 * k + 1 - 2 * k = 1 by omega]; rfl)
        obtain ⟨Ab, cb, rfl⟩ := own_form ub
        have a4 := cf4 4 _ rfl
        have UB := Lib.hid ub
        have O4 := Lib.hid o4
        have BG := Lib.hid bg
        clear o4 cf4 cz4 ub om bg a0 z0 a1 z1 a2 z2 a3
        go_wp2_with fail
        refine (markIntS_any lo x.kept.length _ (cells1 x.kept) (k0 + p + 1 + 1 + 1 + x.items.length) _ UB.out hwk (by omega) (by omega)).mono ?_
        rintro e w3 ⟨rfl, om2, bg2⟩
        have o5 := O4.out.inner (by rw [HV1.out, HKL.out]) ⟨k0 + p, tmV (k0 + p + 1), k0 + p + 1 + 1, marks1 (k0 + p + 1 + 1 + 1) x.items.length, marks1 (k0 + p + 1 + 1 + 1 + x.items.length) x.kept.length, x.back⟩ (2 * k + 1) (marks1 (k0 + p + 1 + 1 + 1 + x.items.length) x.kept.length) rfl (by rw [innA_split, innA_split, List.set_append_right _ _ (by rw [innA_len, HKL.out]; omega), innA_len, HKL.out, show 2 * k + 1 - 2 * k = 1 by omega]; rfl)
          (u := .slice Ab x.kept.length cb) (by rw [List.getElem?_append_right (by rw [HV1.out]; omega), HV1.out, show 2 * k + 1 - 2 * k = 1 by omega]; rfl) (by simpa [length_marks1] using om2) bg2 (Nat.le_trans (tmV_size (by omega)) (by unfold maxLen; omega))
        obtain ⟨cf5, cz5, hgw5⟩ := o5.cells HKL.out HV1.out (HLEN.out _)
        have a5 := cf5 5 _ rfl
        have z5 := cz5 5
        obtain ⟨o6, g6⟩ := o5.store HKL.out HV1.out (HLEN.out _) (rowM (k0 + p) x) 5 (.int .i64 (k0 + p + 1 + 1 + 1 + x.items.length + x.kept.length)) (by omega) rfl rfl rfl (Nat.le_trans (tmV_size (by omega)) (by unfold maxLen; omega))
        have hin0 : ∀ q, (some g = some q) → inB (.slice (some ⟨g, 0, none⟩) n cap) (V1 ++ .slice Aa x.items.length ca :: .slice Ab x.kept.length cb :: V2) q := fun q e => ⟨0, _, rfl, e⟩
        have hin1 : ∀ q, ((Value.slice Aa x.items.length ca).ownBlock = some q) → inB (.slice (some ⟨g, 0, none⟩) n cap) (V1 ++ .slice Aa x.items.length ca :: .slice Ab x.kept.length cb :: V2) q := fun q e => ⟨2 * k + 1, .slice Aa x.items.length ca, by rw [List.getElem?_cons_succ, List.getElem?_append_right (by rw [HV1.out]; omega), HV1.out, Nat.sub_self]; rfl, e⟩
        have hin2 : ∀ q, ((Value.slice Ab x.kept.length cb).ownBlock = some q) → inB (.slice (some ⟨g, 0, none⟩) n cap) (V1 ++ .slice Aa x.items.length ca :: .slice Ab x.kept.length cb :: V2) q := fun q e => ⟨2 * k + 1 + 1, .slice Ab x.kept.length cb, by rw [List.getElem?_cons_succ, List.getElem?_append_right (by rw [HV1.out]; omega), HV1.out, show 2 * k + 1 - 2 * k = 1 by omega]; rfl, e⟩
        have HQ : Hid (MarkRelA w lo 60 3 (.slice (some ⟨g, 0, none⟩) n cap) xs (V1 ++ .slice Aa x.items.length ca :: .slice Ab x.kept.length cb :: V2) k0 (k + 1) (w3.setCell ⟨g, k * 6 + 5, none⟩ (.int .i64 (k0 + p + 1 + 1 + 1 + x.items.length + x.kept.length)))) := Lib.hid ⟨by
          rw [HMT.out, ← HLD.out, List.append_assoc]; exact o6, ((((((ON.out.trans ((Only.of_grown G1.out).mono hin0)).trans (Only.of_below B1.out)).trans ((Only.of_grown G2.out).mono hin0)).trans ((Only.of_grown G3.out).mono hin0)).trans ((Only.of_grown BG.out).mono hin1)).trans ((Only.of_grown bg2).mono hin2)).trans ((Only.of_grown g6).mono hin0)⟩
        clear o5 o6 g6 om2 bg2 cf5 cz5 hin0 hin1 hin2
        go_wp2
        go_roundw
        case rel => exact ⟨k + 1, p + (4 + x.items.length + x.kept.length), by omega, by go_num, by go_num, HSB.out.symm, HQ.out⟩
        case measure => simp [intOf]; omega
      · have HR := Lib.hid hrel
        clear hrel hp
        go_wp2
        go_ret
        have hrel := HR.out
        have hp := HP.out
        have hkn : k = xs.length := by have := HN.out; omega
        subst hkn
        rw [MarkRelA, List.take_length, List.drop_length, List.append_nil] at hrel
        exact ⟨ret_int (by rw [hp, List.take_length]), hrel.1, hrel.2⟩
end Go.Proofs.Ytaobhehjoijpiaa
