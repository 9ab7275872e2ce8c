/- Approvals: copies; the reading of marks. -/
import Derived.Test.YtehohkdipfphmaaDoorAppU
import Derived.Test.YtehohkdipfphmaaDoorList
import Derived.Deep.RegionHeld3
import Derived.Deep.RegionWith
namespace Go.Proofs.YtehohkdipfphmaaDoor
set_option linter.unusedVariables false
set_option linter.unusedSimpArgs false
open Go.RowKit



theorem Apart.tail {v : Value} {vs : List Value} (h : Apart (v :: vs)) : Apart vs := h.map (· + 1) (fun i j e => by omega) (fun j a ha => by simpa using ha)
theorem apart_one (v : Value) : Apart [v] := apart_of fun i j a b k hij ha hb _ _ => by
  have := (List.getElem?_eq_some_iff.1 ha).1; have := (List.getElem?_eq_some_iff.1 hb).1; simp at *; omega
theorem ownA_nil (w : World) (lo E EI : Nat) : OwnA w lo E EI (.slice none 0 0) [] [] := ⟨rfl, World.ownsRow_nil _ _ _ _, fun j x u h => by simp [innA] at h, apart_one _, fun x h => by simp at h⟩
theorem ownA_empty (w : World) (lo E EI : Nat) (hb : lo ≤ w.heap.size) : OwnA (w.alloc (.cells #[] E)) lo E EI (.slice (some ⟨w.heap.size, 0, none⟩) 0 0) [] [] :=
  ⟨rfl, own_empty w lo E 6 hb, fun j x u h => by simp [innA] at h, apart_one _, fun x h => by simp at h⟩
/-- A row appended to a list of the call's own. -/
theorem OwnA.snoc {w w1 w2 : World} {lo E EI : Nat} {v v' a b : Value} {ys : List AR} {vs : List Value} {x : AR} (h : OwnA w lo E EI v ys vs) (hb : Below w.heap.size w w1) (hlo : lo ≤ w.heap.size)
    (ha : w1.ownsRow w.heap.size EI 1 a x.items.length (cells1 x.items)) (hb2 : w1.ownsRow w.heap.size EI 1 b x.kept.length (cells1 x.kept)) (hne : ∀ k, a.ownBlock = some k → b.ownBlock = some k → False) (hcx : x.client.size ≤ maxLen)
    (o' : w2.ownsRow lo E 6 v' (ys.length + 1) (cellsA ys vs ++ row6 x a b)) (g' : w1.grownBy w2 v.ownBlock) (d' : v'.ownBlock = v.ownBlock ∨ v'.ownBlock = some w1.heap.size) : OwnA w2 lo E EI v' (ys ++ [x]) (vs ++ [a, b]) := by
  have hlt := h.lt
  obtain ⟨hl, hr, hi, hap, hc⟩ := h
  have hva : ∀ k, v.ownBlock = some k → a.ownBlock = some k → False := fun k h1 h2 => by
    have := (hlt 0 v k rfl h1).2; have := (ha.lt k h2).1; omega
  have hvb : ∀ k, v.ownBlock = some k → b.ownBlock = some k → False := fun k h1 h2 => by
    have := (hlt 0 v k rfl h1).2; have := (hb2.lt k h2).1; omega
  have hapI : Apart (vs ++ [a, b]) := apart_snoc2 hap.tail (B := w.heap.size) (fun i u k hu hk => (hlt (i + 1) u k (by simpa using hu) hk).2) (fun k hk => (ha.lt k hk).1) (fun k hk => (hb2.lt k hk).1) hne
  have hkeep : ∀ u : Value, (∀ k, v.ownBlock = some k → u.ownBlock = some k → False) → (u.ownBlock = none ∨ u.ownBlock ≠ v.ownBlock) := fun u hu => by
    cases e : u.ownBlock with
    | none => exact .inl rfl
    | some k => exact .inr fun e2 => hu k e2.symm e
  refine ⟨by simp [hl]; omega, by rw [List.length_append, cellsA_append hl]; exact o', fun j zs z hz hu => ?_, ?_, fun y hy => ?_⟩
  · rw [innA_app] at hz
    rcases Nat.lt_or_ge j vs.length with hjl | hjl
    · rw [List.getElem?_append_left hjl] at hu
      rw [List.getElem?_append_left (by rw [innA_len]; omega)] at hz
      exact (own_below (hi j zs z hz hu) hb).kept g' (hap.ne (i := j + 1) (j := 0) (by omega) (by simpa using hu) rfl)
    · have hj2 : j < vs.length + 2 := by have := (List.getElem?_eq_some_iff.1 hu).1; simpa using this
      rw [List.getElem?_append_right hjl] at hu
      rw [List.getElem?_append_right (by rw [innA_len]; omega), innA_len] at hz
      rcases Nat.lt_or_ge j (vs.length + 1) with hj1 | hj1
      · obtain rfl : j = vs.length := by omega
        rw [Nat.sub_self] at hu
        rw [show vs.length - 2 * ys.length = 0 by omega] at hz
        simp at hu hz; subst hu; subst hz
        exact own_mono (ha.kept g' (hkeep _ hva)) hlo
      · obtain rfl : j = vs.length + 1 := by omega
        rw [show vs.length + 1 - vs.length = 1 by omega] at hu
        rw [show vs.length + 1 - 2 * ys.length = 1 by omega] at hz
        simp at hu hz; subst hu; subst hz
        exact own_mono (hb2.kept g' (hkeep _ hvb)) hlo
  · refine apart_cons hapI fun j u k hu hk huk => ?_
    rcases Nat.lt_or_ge j vs.length with hjl | hjl
    · rw [List.getElem?_append_left hjl] at hu
      have h2 := (hlt (j + 1) u k (by simpa using hu) huk).2
      rcases d' with d | d
      · exact hap.no (i := 0) (j := j + 1) (by omega) rfl (by simpa using hu) (d.symm.trans hk) huk
      · rw [d] at hk; injection hk with hk; have := hb.size; omega
    · rw [List.getElem?_append_right hjl] at hu
      have hcase : u = a ∨ u = b := by
        have : u ∈ [a, b] := List.mem_of_getElem? hu
        simpa using this
      rcases hcase with rfl | rfl
      · rcases d' with d | d
        · exact hva k (d.symm.trans hk) huk
        · rw [d] at hk; injection hk with hk; have := (ha.lt k huk).2; omega
      · rcases d' with d | d
        · exact hvb k (d.symm.trans hk) huk
        · rw [d] at hk; injection hk with hk; have := (hb2.lt k huk).2; omega
  · rcases List.mem_append.1 hy with h | h
    · exact hc y h
    · simp at h; subst h; exact hcx

/-- A new struct with two slices of the call's own. -/
structure NewA (wr W : World) (q EI : Nat) (x : AR) (a b : Value) : Prop where
  blk : Blk W q (row6 x a b)
  bx : Below wr.heap.size wr W
  oa : W.ownsRow wr.heap.size EI 1 a x.items.length (cells1 x.items)
  ob : W.ownsRow wr.heap.size EI 1 b x.kept.length (cells1 x.kept)
  ne : ∀ k, a.ownBlock = some k → b.ownBlock = some k → False
theorem only_set (w : World) (q i : Nat) (v : Value) : Only (fun k => k = q) w (w.setCell ⟨q, i, none⟩ v) := ⟨rfl, rfl, rfl, by simp, fun k _ hk => Below.heap_setCell _ ⟨q, i, none⟩ v k hk⟩
theorem newA_s {wr W3 w4 w6 : World} {q EI : Nat} {x : AR} {u v a b : Value} (hq : q = wr.heap.size) (hY : Blk W3 q (row6 x u v)) (hB : Below wr.heap.size wr W3) (hs : W3.heap.size = q + 1) (b4 : Below W3.heap.size W3 w4) (o1 : w4.ownsRow W3.heap.size EI 1 a x.items.length (cells1 x.items))
    (b6 : Below (w4.setCell ⟨q, 3, none⟩ a).heap.size (w4.setCell ⟨q, 3, none⟩ a) w6) (o2 : w6.ownsRow (w4.setCell ⟨q, 3, none⟩ a).heap.size EI 1 b x.kept.length (cells1 x.kept)) : NewA wr (w6.setCell ⟨q, 4, none⟩ b) q EI x a b := by
  have hz4 := b4.size
  have hsz : (w4.setCell ⟨q, 3, none⟩ a).heap.size = w4.heap.size := by simp
  have hz6 := b6.size
  rw [hsz] at b6 o2 hz6
  have Y4 := hY.below b4 (by omega)
  have Y5 : Blk (w4.setCell ⟨q, 3, none⟩ a) q (row6 x a v) := Y4.set (i := 3) (by simp [row6]) a
  have Y6 := Y5.below b6 (by omega)
  refine ⟨Y6.set (i := 4) (by simp [row6]) b, ?_, ?_, ?_, fun k h1 h2 => ?_⟩
  · exact (((hB.trans (b4.mono (by omega))).setCell (p := ⟨q, 3, none⟩) (by show wr.heap.size ≤ q; omega) a).trans (b6.mono (by omega))).setCell (p := ⟨q, 4, none⟩) (by show wr.heap.size ≤ q; omega) b
  · refine own_mono (own_only (own_below (own_only o1 (only_set w4 q 3 a) fun k hk e => ?_) (by rw [hsz]; exact b6)) (only_set w6 q 4 b) fun k hk e => ?_) (by omega)
    · have := (o1.lt k hk).1; omega
    · have := (o1.lt k hk).1; omega
  · refine own_mono (own_only o2 (only_set w6 q 4 b) fun k hk e => ?_) (by omega)
    have := (o2.lt k hk).1; omega
  · have := (o1.lt k h1).2; have := (o2.lt k h2).1; omega
theorem newA_i {wr W3 w4 w5 : World} {q EI : Nat} {x : AR} {u v a b : Value} (hq : q = wr.heap.size) (hY : Blk W3 q (row6 x u v)) (hB : Below wr.heap.size wr W3) (hs : W3.heap.size = q + 1) (b4 : Below W3.heap.size W3 w4) (o1 : w4.ownsRow W3.heap.size EI 1 a x.items.length (cells1 x.items))
    (b5 : Below w4.heap.size w4 w5) (o2 : w5.ownsRow w4.heap.size EI 1 b x.kept.length (cells1 x.kept)) : NewA wr ((w5.setCell ⟨q, 3, none⟩ a).setCell ⟨q, 4, none⟩ b) q EI x a b ∧ NewA wr ((w5.setCell ⟨q, 4, none⟩ b).setCell ⟨q, 3, none⟩ a) q EI x a b := by
  have hz4 := b4.size
  have hz5 := b5.size
  have Y5 := (hY.below b4 (by omega)).below b5 (by omega)
  have hB5 := (hB.trans (b4.mono (by omega))).trans (b5.mono (by omega))
  have hne : ∀ k, a.ownBlock = some k → b.ownBlock = some k → False := fun k h1 h2 => by
    have := (o1.lt k h1).2; have := (o2.lt k h2).1; omega
  have h3 : ∀ W : World, Only (fun k => k = q) w5 W → W.ownsRow wr.heap.size EI 1 a x.items.length (cells1 x.items) ∧ W.ownsRow wr.heap.size EI 1 b x.kept.length (cells1 x.kept) := fun W hW => by
    refine ⟨own_mono (own_only (own_below o1 b5) hW fun k hk e => ?_) (by omega), own_mono (own_only o2 hW fun k hk e => ?_) (by omega)⟩
    · have := (o1.lt k hk).1; omega
    · have := (o2.lt k hk).1; omega
  obtain ⟨p1, p2⟩ := h3 _ ((only_set w5 q 3 a).trans (only_set _ q 4 b))
  obtain ⟨r1, r2⟩ := h3 _ ((only_set w5 q 4 b).trans (only_set _ q 3 a))
  refine ⟨⟨(Y5.set (i := 3) (by simp [row6]) a).set (i := 4) (by simp [row6]) b, (hB5.setCell (p := ⟨q, 3, none⟩) (by show wr.heap.size ≤ q; omega) a).setCell (p := ⟨q, 4, none⟩) (by show wr.heap.size ≤ q; omega) b, p1, p2, hne⟩,
    ⟨(Y5.set (i := 4) (by simp [row6]) b).set (i := 3) (by simp [row6]) a, (hB5.setCell (p := ⟨q, 4, none⟩) (by show wr.heap.size ≤ q; omega) b).setCell (p := ⟨q, 3, none⟩) (by show wr.heap.size ≤ q; omega) a, r1, r2, hne⟩⟩

end Go.Proofs.YtehohkdipfphmaaDoor
