/- Approvals: the marks of a list, and the reading of marks. -/
import Derived.Test.YtehohkdipfphmaaDoorAppT
namespace Go.Proofs.YtehohkdipfphmaaDoor
set_option linter.unusedVariables false
set_option linter.unusedSimpArgs false
open Go.RowKit

theorem digsV_len : ∀ (m f k : Nat) (s : List UInt8), k < 10 ^ m → (digsV f k s).length ≤ m + s.length
  | m, 0, k, s, _ => by simp [digsV]
  | 0, f + 1, k, s, h => by
    have : k = 0 := by simpa using h
    simp [digsV, this]
  | m + 1, f + 1, k, s, h => by
    simp only [digsV]
    split
    · omega
    · have := digsV_len m f (k / 10) ((48 + k % 10).toUInt8 :: s) (by rw [Nat.pow_succ] at h; omega)
      simp only [List.length_cons] at this; omega
theorem tmV_size {k : Int} (h : k ≤ 1000000000000) : (tmV k).size ≤ 64 := by
  unfold tmV
  split
  · show 2 ≤ 64; omega
  · have := digsV_len 13 k.toNat k.toNat [] (by have : (10 : Nat) ^ 13 = 10000000000000 := by decide
                                                omega)
    show (109 :: digsV k.toNat k.toNat []).toArray.size ≤ 64
    simp only [List.size_toArray, List.length_cons]; simp at this; omega

/-- A row's cells. -/
def row6 (x : AR) (a b : Value) : List Value := [.int .i64 x.id, .string x.client, .int .i64 x.sent, a, b, .int .i64 x.back]
theorem cellsA_split : ∀ {L : List AR} {V1 : List Value} (x : AR) (R : List AR) (a b : Value) (V2 : List Value), V1.length = 2 * L.length → cellsA (L ++ x :: R) (V1 ++ a :: b :: V2) = cellsA L V1 ++ (row6 x a b ++ cellsA R V2)
  | [], [], _, _, _, _, _, _ => rfl
  | [], _ :: _, _, _, _, _, _, h => by simp at h
  | _ :: _, [], _, _, _, _, _, h => by simp at h
  | _ :: _, [_], _, _, _, _, _, h => by simp at h; omega
  | y :: L, u :: v :: V1, x, R, a, b, V2, h => by
    simp only [List.cons_append, cellsA]
    rw [cellsA_split x R a b V2 (by simp only [List.length_cons] at h; omega)]
theorem innA_split : ∀ (L : List AR) (x : AR) (R : List AR), innA (L ++ x :: R) = innA L ++ x.items :: x.kept :: innA R
  | [], _, _ => rfl
  | y :: L, x, R => by simp only [List.cons_append, innA, innA_split L x R]
theorem set_mid6 {α : Type} {l : List α} {p d : Nat} (hl : l.length = p) {m r : List α} (hd : d < m.length) (v : α) : (l ++ (m ++ r)).set (p + d) v = l ++ (m.set d v ++ r) := by
  subst hl
  rw [List.set_append_right _ _ (by omega), show l.length + d - l.length = d by omega, List.set_append_left _ _ hd]

theorem OwnA.store {w : World} {lo E EI g n cap i : Nat} {x : AR} {L R : List AR} {V1 V2 : List Value} {a b : Value} (h : OwnA w lo E EI (.slice (some ⟨g, 0, none⟩) n cap) (L ++ x :: R) (V1 ++ a :: b :: V2)) (hi : L.length = i) (h1 : V1.length = 2 * i) (hn : (L ++ x :: R).length = n)
    (y : AR) (d : Nat) (val : Value) (hd6 : d < 6) (hd : row6 y a b = (row6 x a b).set d val) (hy1 : y.items = x.items) (hy2 : y.kept = x.kept) (hyc : y.client.size ≤ maxLen) :
    OwnA (w.setCell ⟨g, i * 6 + d, none⟩ val) lo E EI (.slice (some ⟨g, 0, none⟩) n cap) (L ++ y :: R) (V1 ++ a :: b :: V2) ∧ w.grownBy (w.setCell ⟨g, i * 6 + d, none⟩ val) (some g) := by
  obtain ⟨hl, hr, hi', ha, hc⟩ := h
  rw [hn] at hr
  have h1' : V1.length = 2 * L.length := by omega
  have hyn : (L ++ y :: R).length = n := by rw [← hn]; simp
  obtain ⟨s1, s2⟩ := hr.stored (i * 6 + d) val
  have hin : innA (L ++ y :: R) = innA (L ++ x :: R) := by rw [innA_split, innA_split, hy1, hy2]
  have hcl : (cellsA L V1).length = i * 6 := by rw [length_cellsA h1', hi]
  have hcs : cellsA (L ++ y :: R) (V1 ++ a :: b :: V2) = (cellsA (L ++ x :: R) (V1 ++ a :: b :: V2)).set (i * 6 + d) val := by
    rw [cellsA_split y R a b V2 h1', cellsA_split x R a b V2 h1', set_mid6 hcl (by simpa [row6] using hd6), hd]
  refine ⟨⟨by rw [hl]; simp, ?_, fun j zs u hz hu => ?_, ha, fun z hz => ?_⟩, s2⟩
  · rw [hcs, hyn]; exact s1
  · rw [hin] at hz
    exact (hi' j zs u hz hu).kept s2 (ha.ne (i := j + 1) (j := 0) (by omega) (by simpa using hu) rfl)
  · rcases List.mem_append.1 hz with hz | hz
    · exact hc z (List.mem_append_left _ hz)
    · rcases List.mem_cons.1 hz with rfl | hz
      · exact hyc
      · exact hc z (List.mem_append_right _ (List.mem_cons_of_mem _ hz))
theorem OwnA.inner {w w' : World} {lo E EI : Nat} {v u : Value} {x : AR} {L R : List AR} {V1 V2 : List Value} {a b : Value} (h : OwnA w lo E EI v (L ++ x :: R) (V1 ++ a :: b :: V2)) (h1 : V1.length = 2 * L.length)
    (y : AR) (j : Nat) (zs : List Int) (hd : row6 y a b = row6 x a b) (hj : innA (L ++ y :: R) = (innA (L ++ x :: R)).set j zs) (hu : (V1 ++ a :: b :: V2)[j]? = some u) (ho : w'.ownsRow lo EI 1 u zs.length (cells1 zs)) (hg : w.grownBy w' u.ownBlock) (hyc : y.client.size ≤ maxLen) :
    OwnA w' lo E EI v (L ++ y :: R) (V1 ++ a :: b :: V2) := by
  obtain ⟨hl, hr, hi', ha, hc⟩ := h
  have hyn : (L ++ y :: R).length = (L ++ x :: R).length := by simp
  have hcs : cellsA (L ++ y :: R) (V1 ++ a :: b :: V2) = cellsA (L ++ x :: R) (V1 ++ a :: b :: V2) := by rw [cellsA_split y R a b V2 h1, cellsA_split x R a b V2 h1, hd]
  refine ⟨by rw [hl, hyn], ?_, fun q zs' u' hz hu' => ?_, ha, fun z hz => ?_⟩
  · rw [hcs, hyn]
    exact hr.kept hg (ha.ne (i := 0) (j := j + 1) (by omega) rfl (by simpa using hu))
  · rw [hj] at hz
    by_cases e : j = q
    · subst e
      have hjl : j < (innA (L ++ x :: R)).length := by have := (List.getElem?_eq_some_iff.1 hz).1; simpa using this
      rw [List.getElem?_set_self hjl] at hz
      obtain rfl : zs = zs' := Option.some.inj hz
      obtain rfl : u = u' := Option.some.inj (hu.symm.trans hu')
      exact ho
    · rw [List.getElem?_set_ne e] at hz
      exact (hi' q zs' u' hz hu').kept hg (ha.ne (i := q + 1) (j := j + 1) (by omega) (by simpa using hu') (by simpa using hu))
  · rcases List.mem_append.1 hz with hz | hz
    · exact hc z (List.mem_append_left _ hz)
    · rcases List.mem_cons.1 hz with rfl | hz
      · exact hyc
      · exact hc z (List.mem_append_right _ (List.mem_cons_of_mem _ hz))
theorem OwnA.cells {w : World} {lo E EI g n cap i : Nat} {x : AR} {L R : List AR} {V1 V2 : List Value} {a b : Value} (h : OwnA w lo E EI (.slice (some ⟨g, 0, none⟩) n cap) (L ++ x :: R) (V1 ++ a :: b :: V2)) (hi : L.length = i) (h1 : V1.length = 2 * i) (hn : (L ++ x :: R).length = n) :
    (∀ d v, (row6 x a b)[d]? = some v → w.cell? ⟨g, i * 6 + d, none⟩ = some v) ∧ (∀ d, w.frozen? ⟨g, i * 6 + d, none⟩ = false) ∧ g < w.heap.size := by
  have hr := h.2.1
  rw [hn] at hr
  have hcl : (cellsA L V1).length = i * 6 := by rw [length_cellsA (by omega), hi]
  have hin : i < n := by rw [← hn]; simp; omega
  refine ⟨fun d v hd => ?_, fun d => hr.frozenAt _, (hr.lt g rfl).2⟩
  have hd6 : d < 6 := by have := (List.getElem?_eq_some_iff.1 hd).1; simpa [row6] using this
  rw [hr.cellAt (i * 6 + d) (by omega), cellsA_split x R a b V2 (by omega), List.getElem?_append_right (by omega), hcl, show i * 6 + d - i * 6 = d by omega, List.getElem?_append_left (by simpa [row6] using hd6)]
  exact hd

/-! ### Marks -/
def rowM (k : Int) (x : AR) : AR := ⟨k, tmV (k + 1), k + 1 + 1, marks1 (k + 1 + 1 + 1) x.items.length, marks1 (k + 1 + 1 + 1 + x.items.length) x.kept.length, k + 1 + 1 + 1 + x.items.length + x.kept.length⟩
def markA : Int → List AR → List AR
  | _, [] => []
  | k, x :: xs => rowM k x :: markA (k + (4 + x.items.length + x.kept.length : Nat)) xs
theorem length_markA : ∀ (xs : List AR) (k : Int), (markA k xs).length = xs.length
  | [], _ => rfl
  | x :: xs, k => by simp [markA, length_markA xs]
theorem szA_take {xs : List AR} {i : Nat} {x : AR} (h : xs[i]? = some x) : szA (xs.take (i + 1)) = szA (xs.take i) + (4 + x.items.length + x.kept.length) := by
  induction xs generalizing i with
  | nil => simp at h
  | cons y ys ih =>
    cases i with
    | zero => simp at h; subst h; simp [szA]
    | succ i =>
      simp only [List.take_succ_cons, szA]
      rw [ih (by simpa using h)]; omega
theorem szA_take_le (xs : List AR) (i : Nat) : szA (xs.take i) ≤ szA xs := by
  induction xs generalizing i with
  | nil => simp [szA]
  | cons y ys ih =>
    cases i with
    | zero => simp [szA]
    | succ i => simp only [List.take_succ_cons, szA]; have := ih i; omega
theorem markA_take {xs : List AR} {i : Nat} {x : AR} (k : Int) (h : xs[i]? = some x) :
    markA k (xs.take (i + 1)) = markA k (xs.take i) ++ [rowM (k + szA (xs.take i)) x] := by
  induction xs generalizing i k with
  | nil => simp at h
  | cons y ys ih =>
    cases i with
    | zero => simp at h; subst h; simp [markA, szA]
    | succ i =>
      simp only [List.take_succ_cons, markA, szA, List.cons_append]
      rw [ih _ (by simpa using h)]
      have e : k + ((4 + y.items.length + y.kept.length : Nat) : Int) + (szA (ys.take i) : Int) = k + ((4 + y.items.length + y.kept.length + szA (ys.take i) : Nat) : Int) := by omega
      rw [e]
theorem markA_get {xs : List AR} {i : Nat} {x : AR} (k : Int) (h : xs[i]? = some x) : (markA k xs)[i]? = some (rowM (k + szA (xs.take i)) x) := by
  induction xs generalizing i k with
  | nil => simp at h
  | cons y ys ih =>
    cases i with
    | zero => simp at h; subst h; simp [markA, szA]
    | succ i =>
      simp only [List.take_succ_cons, markA, szA, List.getElem?_cons_succ]
      rw [ih _ (by simpa using h)]
      have e : k + ((4 + y.items.length + y.kept.length : Nat) : Int) + (szA (ys.take i) : Int) = k + ((4 + y.items.length + y.kept.length + szA (ys.take i) : Nat) : Int) := by omega
      rw [e]
theorem szA_take_lt {xs : List AR} {i : Nat} {x : AR} (h : xs[i]? = some x) : szA (xs.take i) + (4 + x.items.length + x.kept.length) ≤ szA xs := by
  have := szA_take h; have := szA_take_le xs (i + 1); omega
/-- What a marking loop leaves behind i rows. -/
def MarkRelA (W : World) (lo E EI : Nat) (v : Value) (xs : List AR) (vs : List Value) (k0 : Int) (i : Nat) (wr : World) : Prop :=
  OwnA wr lo E EI v (markA k0 (xs.take i) ++ xs.drop i) vs ∧ Only (inB v vs) W wr
/-- After a marking loop: what it returns, the marked list, that nothing else was written. -/
def RetMarkA (r : Int) (lo E EI : Nat) (v : Value) (xs : List AR) (vs : List Value) (W : World) : Ending → World → Prop := fun e w' => e = .returned (.int .i64 r) ∧ OwnA w' lo E EI v xs vs ∧ Only (inB v vs) W w'
theorem split2 {vs : List Value} {k n : Nat} (hl : vs.length = 2 * n) (hk : k < n) : ∃ V1 a b V2, vs = V1 ++ a :: b :: V2 ∧ V1.length = 2 * k := by
  refine ⟨vs.take (2 * k), vs[2 * k], vs[2 * k + 1], vs.drop (2 * k + 2), ?_, by rw [List.length_take]; omega⟩
  rw [← drop_cons (List.getElem?_eq_getElem (by omega)), ← drop_cons (List.getElem?_eq_getElem (by omega)), List.take_append_drop]

end Go.Proofs.YtehohkdipfphmaaDoor
