/- Approvals: copies; the reading of marks. -/
import Derived.Test.YtogjcnfhfpgbfaaAppU
import Derived.Test.YtogjcnfhfpgbfaaList
import Derived.Deep.RegionHeld3
import Derived.Deep.RegionWith
namespace Go.Proofs.Ytogjcnfhfpgbfaa
set_option linter.unusedVariables false
set_option linter.unusedSimpArgs false
open Go.RowKit

set_option maxHeartbeats 1000000 in
theorem l1Own_any (A : Option Addr) (n c : Nat) (zs : List Int) (w : World) (hn : zs.length = n) (hA : Rd w A (cells1 zs)) (h20 : n ≤ 1048576) :
    Calls Try.prog 36 #[.slice A n c] w (RetOwn 3 1 n (cells1 zs) w) := by
  have HE := Lib.hid (own_empty w w.heap.size 3 1 (Nat.le_refl _))
  have HR := Lib.hid (fun o => hA.alloc o)
  have HL := Lib.hid (show (cells1 zs).length = n * 1 by rw [length_cells1, hn, Nat.mul_one])
  clear hA hn
  go_enter Try.func36, Try.ntmps36
  go_wp2_with (at_builtin; go_must (refine wpList_app _ rfl (.tmp 3) (.tmp 4) 25 rfl w.heap.size 3 _ 1 8 Try.underlying25 infoI rfl (by omega) _ _ _ rfl HE.out _ n c (cells1 zs) rfl HL.out (HR.out _) (oneCell_ints zs) (by unfold maxLen; omega) (by omega) (by simp) ?_); intro v' w' o' g' d')
  go_ret
  refine ⟨_, rfl, by simpa using o', ((Below.refl _ _).alloc (Nat.le_refl _) _).trans (below_app HE.out g' (by simp) (Nat.le_refl _))⟩


theorem Apart.tail {v : Value} {vs : List Value} (h : Apart (v :: vs)) : Apart vs := h.map (· + 1) (fun i j e => by omega) (fun j a ha => by simpa using ha)
theorem apart_one (v : Value) : Apart [v] := apart_of fun i j a b k hij ha hb _ _ => by
  have := (List.getElem?_eq_some_iff.1 ha).1; have := (List.getElem?_eq_some_iff.1 hb).1; simp at *; omega
theorem ownA_nil (w : World) (lo E EI : Nat) : OwnA w lo E EI (.slice none 0 0) [] [] := ⟨rfl, World.ownsRow_nil _ _ _ _, fun j x u h => by simp [innA] at h, apart_one _, fun x h => by simp at h⟩
theorem ownA_empty (w : World) (lo E EI : Nat) (hb : lo ≤ w.heap.size) : OwnA (w.alloc (.cells #[] E)) lo E EI (.slice (some ⟨w.heap.size, 0, none⟩) 0 0) [] [] :=
  ⟨rfl, own_empty w lo E 6 hb, fun j x u h => by simp [innA] at h, apart_one _, fun x h => by simp at h⟩
/-- A row appended to a list of the call's own. -/
theorem OwnA.snoc {w w1 w2 : World} {lo E EI : Nat} {v v' a b : Value} {ys : List AR} {vs : List Value} {x : AR} (h : OwnA w lo E EI v ys vs) (hb : Below w.heap.size w w1) (hlo : lo ≤ w.heap.size)
    (ha : w1.ownsRow w.heap.size EI 1 a x.items.length (cells1 x.items)) (hb2 : w1.ownsRow w.heap.size EI 1 b x.kept.length (cells1 x.kept)) (hne : ∀ k, a.ownBlock = some k → b.ownBlock = some k → False) (hcx : x.client.size ≤ maxLen)
    (o' : w2.ownsRow lo E 6 v' (ys.length + 1) (cellsA ys vs ++ row6 x a b)) (g' : w1.grownBy w2 v.ownBlock) (d' : v'.ownBlock = v.ownBlock ∨ v'.ownBlock = some w1.heap.size) : OwnA w2 lo E EI v' (ys ++ [x]) (vs ++ [a, b]) := by
  have hlt := h.lt
  obtain ⟨hl, hr, hi, hap, hc⟩ := h
  have hva : ∀ k, v.ownBlock = some k → a.ownBlock = some k → False := fun k h1 h2 => by
    have := (hlt 0 v k rfl h1).2; have := (ha.lt k h2).1; omega
  have hvb : ∀ k, v.ownBlock = some k → b.ownBlock = some k → False := fun k h1 h2 => by
    have := (hlt 0 v k rfl h1).2; have := (hb2.lt k h2).1; omega
  have hapI : Apart (vs ++ [a, b]) := apart_snoc2 hap.tail (B := w.heap.size) (fun i u k hu hk => (hlt (i + 1) u k (by simpa using hu) hk).2) (fun k hk => (ha.lt k hk).1) (fun k hk => (hb2.lt k hk).1) hne
  have hkeep : ∀ u : Value, (∀ k, v.ownBlock = some k → u.ownBlock = some k → False) → (u.ownBlock = none ∨ u.ownBlock ≠ v.ownBlock) := fun u hu => by
    cases e : u.ownBlock with
    | none => exact .inl rfl
    | some k => exact .inr fun e2 => hu k e2.symm e
  refine ⟨by simp [hl]; omega, by rw [List.length_append, cellsA_append hl]; exact o', fun j zs z hz hu => ?_, ?_, fun y hy => ?_⟩
  · rw [innA_app] at hz
    rcases Nat.lt_or_ge j vs.length with hjl | hjl
    · rw [List.getElem?_append_left hjl] at hu
      rw [List.getElem?_append_left (by rw [innA_len]; omega)] at hz
      exact (own_below (hi j zs z hz hu) hb).kept g' (hap.ne (i := j + 1) (j := 0) (by omega) (by simpa using hu) rfl)
    · have hj2 : j < vs.length + 2 := by have := (List.getElem?_eq_some_iff.1 hu).1; simpa using this
      rw [List.getElem?_append_right hjl] at hu
      rw [List.getElem?_append_right (by rw [innA_len]; omega), innA_len] at hz
      rcases Nat.lt_or_ge j (vs.length + 1) with hj1 | hj1
      · obtain rfl : j = vs.length := by omega
        rw [Nat.sub_self] at hu
        rw [show vs.length - 2 * ys.length = 0 by omega] at hz
        simp at hu hz; subst hu; subst hz
        exact own_mono (ha.kept g' (hkeep _ hva)) hlo
      · obtain rfl : j = vs.length + 1 := by omega
        rw [show vs.length + 1 - vs.length = 1 by omega] at hu
        rw [show vs.length + 1 - 2 * ys.length = 1 by omega] at hz
        simp at hu hz; subst hu; subst hz
        exact own_mono (hb2.kept g' (hkeep _ hvb)) hlo
  · refine apart_cons hapI fun j u k hu hk huk => ?_
    rcases Nat.lt_or_ge j vs.length with hjl | hjl
    · rw [List.getElem?_append_left hjl] at hu
      have h2 := (hlt (j + 1) u k (by simpa using hu) huk).2
      rcases d' with d | d
      · exact hap.no (i := 0) (j := j + 1) (by omega) rfl (by simpa using hu) (d.symm.trans hk) huk
      · rw [d] at hk; injection hk with hk; have := hb.size; omega
    · rw [List.getElem?_append_right hjl] at hu
      have hcase : u = a ∨ u = b := by
        have : u ∈ [a, b] := List.mem_of_getElem? hu
        simpa using this
      rcases hcase with rfl | rfl
      · rcases d' with d | d
        · exact hva k (d.symm.trans hk) huk
        · rw [d] at hk; injection hk with hk; have := (ha.lt k huk).2; omega
      · rcases d' with d | d
        · exact hvb k (d.symm.trans hk) huk
        · rw [d] at hk; injection hk with hk; have := (hb2.lt k huk).2; omega
  · rcases List.mem_append.1 hy with h | h
    · exact hc y h
    · simp at h; subst h; exact hcx

/-- A new struct with two slices of the call's own. -/
structure NewA (wr W : World) (q EI : Nat) (x : AR) (a b : Value) : Prop where
  blk : Blk W q (row6 x a b)
  bx : Below wr.heap.size wr W
  oa : W.ownsRow wr.heap.size EI 1 a x.items.length (cells1 x.items)
  ob : W.ownsRow wr.heap.size EI 1 b x.kept.length (cells1 x.kept)
  ne : ∀ k, a.ownBlock = some k → b.ownBlock = some k → False
theorem only_set (w : World) (q i : Nat) (v : Value) : Only (fun k => k = q) w (w.setCell ⟨q, i, none⟩ v) := ⟨rfl, rfl, rfl, by simp, fun k _ hk => Below.heap_setCell _ ⟨q, i, none⟩ v k hk⟩
theorem newA_s {wr W3 w4 w6 : World} {q EI : Nat} {x : AR} {u v a b : Value} (hq : q = wr.heap.size) (hY : Blk W3 q (row6 x u v)) (hB : Below wr.heap.size wr W3) (hs : W3.heap.size = q + 1) (b4 : Below W3.heap.size W3 w4) (o1 : w4.ownsRow W3.heap.size EI 1 a x.items.length (cells1 x.items))
    (b6 : Below (w4.setCell ⟨q, 3, none⟩ a).heap.size (w4.setCell ⟨q, 3, none⟩ a) w6) (o2 : w6.ownsRow (w4.setCell ⟨q, 3, none⟩ a).heap.size EI 1 b x.kept.length (cells1 x.kept)) : NewA wr (w6.setCell ⟨q, 4, none⟩ b) q EI x a b := by
  have hz4 := b4.size
  have hsz : (w4.setCell ⟨q, 3, none⟩ a).heap.size = w4.heap.size := by simp
  have hz6 := b6.size
  rw [hsz] at b6 o2 hz6
  have Y4 := hY.below b4 (by omega)
  have Y5 : Blk (w4.setCell ⟨q, 3, none⟩ a) q (row6 x a v) := Y4.set (i := 3) (by simp [row6]) a
  have Y6 := Y5.below b6 (by omega)
  refine ⟨Y6.set (i := 4) (by simp [row6]) b, ?_, ?_, ?_, fun k h1 h2 => ?_⟩
  · exact (((hB.trans (b4.mono (by omega))).setCell (p := ⟨q, 3, none⟩) (by show wr.heap.size ≤ q; omega) a).trans (b6.mono (by omega))).setCell (p := ⟨q, 4, none⟩) (by show wr.heap.size ≤ q; omega) b
  · refine own_mono (own_only (own_below (own_only o1 (only_set w4 q 3 a) fun k hk e => ?_) (by rw [hsz]; exact b6)) (only_set w6 q 4 b) fun k hk e => ?_) (by omega)
    · have := (o1.lt k hk).1; omega
    · have := (o1.lt k hk).1; omega
  · refine own_mono (own_only o2 (only_set w6 q 4 b) fun k hk e => ?_) (by omega)
    have := (o2.lt k hk).1; omega
  · have := (o1.lt k h1).2; have := (o2.lt k h2).1; omega
theorem newA_i {wr W3 w4 w5 : World} {q EI : Nat} {x : AR} {u v a b : Value} (hq : q = wr.heap.size) (hY : Blk W3 q (row6 x u v)) (hB : Below wr.heap.size wr W3) (hs : W3.heap.size = q + 1) (b4 : Below W3.heap.size W3 w4) (o1 : w4.ownsRow W3.heap.size EI 1 a x.items.length (cells1 x.items))
    (b5 : Below w4.heap.size w4 w5) (o2 : w5.ownsRow w4.heap.size EI 1 b x.kept.length (cells1 x.kept)) : NewA wr ((w5.setCell ⟨q, 3, none⟩ a).setCell ⟨q, 4, none⟩ b) q EI x a b ∧ NewA wr ((w5.setCell ⟨q, 4, none⟩ b).setCell ⟨q, 3, none⟩ a) q EI x a b := by
  have hz4 := b4.size
  have hz5 := b5.size
  have Y5 := (hY.below b4 (by omega)).below b5 (by omega)
  have hB5 := (hB.trans (b4.mono (by omega))).trans (b5.mono (by omega))
  have hne : ∀ k, a.ownBlock = some k → b.ownBlock = some k → False := fun k h1 h2 => by
    have := (o1.lt k h1).2; have := (o2.lt k h2).1; omega
  have h3 : ∀ W : World, Only (fun k => k = q) w5 W → W.ownsRow wr.heap.size EI 1 a x.items.length (cells1 x.items) ∧ W.ownsRow wr.heap.size EI 1 b x.kept.length (cells1 x.kept) := fun W hW => by
    refine ⟨own_mono (own_only (own_below o1 b5) hW fun k hk e => ?_) (by omega), own_mono (own_only o2 hW fun k hk e => ?_) (by omega)⟩
    · have := (o1.lt k hk).1; omega
    · have := (o2.lt k hk).1; omega
  obtain ⟨p1, p2⟩ := h3 _ ((only_set w5 q 3 a).trans (only_set _ q 4 b))
  obtain ⟨r1, r2⟩ := h3 _ ((only_set w5 q 4 b).trans (only_set _ q 3 a))
  refine ⟨⟨(Y5.set (i := 3) (by simp [row6]) a).set (i := 4) (by simp [row6]) b, (hB5.setCell (p := ⟨q, 3, none⟩) (by show wr.heap.size ≤ q; omega) a).setCell (p := ⟨q, 4, none⟩) (by show wr.heap.size ≤ q; omega) b, p1, p2, hne⟩,
    ⟨(Y5.set (i := 4) (by simp [row6]) b).set (i := 3) (by simp [row6]) a, (hB5.setCell (p := ⟨q, 4, none⟩) (by show wr.heap.size ≤ q; omega) b).setCell (p := ⟨q, 3, none⟩) (by show wr.heap.size ≤ q; omega) a, r1, r2, hne⟩⟩

set_option maxRecDepth 20000 in
set_option maxHeartbeats 4000000 in
theorem l28Own_any (A : Option Addr) (n c : Nat) (xs : List AR) (w : World) (hn : xs.length = n) (hA : RdA w A xs) (h20 : n ≤ 1048576) (hw : ∀ x ∈ xs, smA x) :
    Calls Try.prog 35 #[.slice A n c] w (RetA 41 3 xs w) := by
  have HN := Lib.hid hn
  have HW := Lib.hid hw
  have HA := Lib.hid hA
  clear hn hw hA
  go_enter Try.func35, Try.ntmps35
  go_wp2_with fail
  go_loopw [3, 4] (fun v j wr => ∃ (k : Nat) (vs : List Value), k ≤ n ∧ j = .int .i64 k ∧ OwnA wr w.heap.size 41 3 v (xs.take k) vs ∧ Below w.heap.size w wr) (fun _ j _ => n - (intOf j).toNat)
  case atStart => exact ⟨0, [], Nat.zero_le _, rfl, ownA_empty w w.heap.size _ _ (Nat.le_refl _), (Below.refl _ _).alloc (Nat.le_refl _) _⟩
  case round =>
    obtain ⟨k, vs, hk, rfl, ho, hb⟩ := hrel
    have HO := Lib.hid ho
    have HB := Lib.hid hb
    have hs := hb.size
    clear ho
    by_cases hlt : k < n
    · obtain ⟨x, hxk⟩ : ∃ x, xs[k]? = some x := ⟨xs[k]'(by have := HN.out; omega), List.getElem?_eq_getElem _⟩
      obtain ⟨g, o, B, cb, D, cd, rfl, hrow0⟩ := HA.out.at hxk
      have HROW := Lib.hid hrow0
      obtain ⟨hcl, hsx, hsk⟩ := HW.out x (List.mem_of_getElem? hxk)
      have HCM : Hid (x.client.size ≤ maxLen) := Lib.hid hrow0.cs
      have HT := Lib.hid (show xs.take (k + 1) = xs.take k ++ [x] by rw [List.take_add_one, hxk]; rfl)
      have hyl : (xs.take k).length = k := by rw [List.length_take]; have := HN.out; omega
      have HYL := Lib.hid hyl
      obtain ⟨hg, -, c0, c1, c2, c3, c4, c5, -, -, -, -, -, -⟩ := hrow0.below hb
      clear hxk hrow0 hyl
      obtain ⟨W3, hW3⟩ : ∃ W3, W3 = wr.alloc (.cells #[.int .i64 x.id, .string x.client, .int .i64 x.sent, .slice B x.items.length cb, .slice D x.kept.length cd, .int .i64 x.back] 41) := ⟨_, rfl⟩
      have B3 : Hid (Below wr.heap.size wr W3) := Lib.hid (by rw [hW3]; exact (Below.refl _ _).alloc (Nat.le_refl _) _)
      have Y3 : Hid (Blk W3 wr.heap.size (row6 x (.slice B x.items.length cb) (.slice D x.kept.length cd))) := Lib.hid (by rw [hW3]; exact Blk.new _ _ _)
      have HZ3 : Hid (W3.heap.size = wr.heap.size + 1) := Lib.hid (by rw [hW3]; simp)
      have HBR := Lib.hid (HB.out.trans (B3.out.mono hs))
      have HW3 := Lib.hid hW3
      clear hW3
      have y3 := Y3.out.cell 3 _ rfl
      have hy := Y3.out.lt
      rw [HW3.out] at y3 hy
      go_wp2_with fail
      rw [← HW3.out]
      rw [← HW3.out] at y3 hy
      refine (l1Own_any B _ cb x.items _ rfl (HROW.out.below HBR.out).rB hsx).mono ?_
      rintro e w4 ⟨u1, rfl, o1, b4⟩
      obtain ⟨A1, d1, rfl⟩ := own_form o1
      have Y4 := Y3.out.below b4 hy
      have z3 := Y4.cell 3 _ rfl
      have f3 := Y4.fr 3 (by simp [row6])
      have Y5 : Blk (w4.setCell ⟨wr.heap.size, 3, none⟩ (.slice A1 x.items.length d1)) wr.heap.size (row6 x (.slice A1 x.items.length d1) (.slice D x.kept.length cd)) := Y4.set (i := 3) (by simp [row6]) _
      have z4 := Y5.cell 4 _ rfl
      have hy4 := Y4.lt
      have HB5 := Lib.hid ((HBR.out.trans (b4.mono HBR.out.size)).setCell (p := ⟨wr.heap.size, 3, none⟩) hs (.slice A1 x.items.length d1))
      have HY5 := Lib.hid Y5
      have HO1 := Lib.hid o1
      have HB4 := Lib.hid b4
      clear Y4 Y5 o1 b4 y3 hy c0 c1 c2 c3 c4 c5
      go_wp2_with fail
      refine (l1Own_any D _ cd x.kept _ rfl (HROW.out.below HB5.out).rD hsk).mono ?_
      rintro e w6 ⟨u2, rfl, o2, b6⟩
      obtain ⟨A2, d2, rfl⟩ := own_form o2
      have Y6 := HY5.out.below b6 HY5.out.lt
      have x4 := Y6.cell 4 _ rfl
      have f4 := Y6.fr 4 (by simp [row6])
      have hy6 := Y6.lt
      have NA := newA_s rfl Y3.out B3.out HZ3.out HB4.out HO1.out b6 o2
      clear Y6 z3 f3 z4 hy4
      obtain ⟨W9, hW9⟩ : ∃ W, W = w6.setCell ⟨wr.heap.size, 4, none⟩ (.slice A2 x.kept.length d2) := ⟨_, rfl⟩
      have HNA := Lib.hid NA
      have w0 := NA.blk.cell 0 _ rfl
      have w1 := NA.blk.cell 1 _ rfl
      have w2 := NA.blk.cell 2 _ rfl
      have w3 := NA.blk.cell 3 _ rfl
      have w4x := NA.blk.cell 4 _ rfl
      have w5 := NA.blk.cell 5 _ rfl
      have hy7 := NA.blk.lt
      have hsW := NA.bx.size
      have hrow := fun q => own_below HO.out.2.1 (HNA.out.bx.alloc HNA.out.bx.size q)
      rw [HYL.out] at hrow
      have HRW := Lib.hid hrow
      clear hrow NA hW9
      go_wp2_with (at_builtin; go_must (refine wpList_app _ rfl (.tmp 25) (.tmp 27) 24 rfl w.heap.size 41 _ 6 88 Try.underlying24 info41 rfl (by omega) _ k _ rfl (HRW.out _) _ 1 1 [.int .i64 x.id, .string x.client, .int .i64 x.sent, .slice A1 x.items.length d1, .slice A2 x.kept.length d2, .int .i64 x.back] rfl rfl (rd_new #[.int .i64 x.id, .string x.client, .int .i64 x.sent, .slice A1 x.items.length d1, .slice A2 x.kept.length d2, .int .i64 x.back] 41 (by simp)) (by intro u hu; simp at hu; rcases hu with rfl | rfl | rfl | rfl | rfl | rfl <;> rfl) (by unfold maxLen; omega) (by omega) (by simp; omega) ?_); intro v' w' o' g' d')
      have hfin := HO.out.snoc (x := x) (HNA.out.bx.alloc HNA.out.bx.size _) hs (own_below HNA.out.oa ((Below.refl _ _).alloc (Nat.le_refl _) _)) (own_below HNA.out.ob ((Below.refl _ _).alloc (Nat.le_refl _) _)) HNA.out.ne HCM.out (by rw [HYL.out]; exact o') g' d'
      have HF := Lib.hid hfin
      have HBF := Lib.hid ((HB.out.trans ((HNA.out.bx.alloc HNA.out.bx.size _).mono hs)).trans (below_app (HRW.out _) g' (by simp; omega) (Nat.le_refl _)))
      clear hfin o' g' d'
      go_roundw
      case rel => exact ⟨k + 1, _, by omega, by go_num, by rw [HT.out]; exact HF.out, HBF.out⟩
      case measure => simp [intOf]; omega
    · have hd : decide (k < n) = false := by simpa using hlt
      go_wp2
      go_ret
      have hkn : k = n := by omega
      refine ⟨_, vs, rfl, ?_, HB.out⟩
      have h1 := HO.out
      rw [List.take_of_length_le (by have := HN.out; omega)] at h1
      exact h1
set_option maxRecDepth 20000 in
set_option maxHeartbeats 4000000 in
theorem copyApprovals_any (A : Option Addr) (n c : Nat) (xs : List AR) (w : World) (hn : xs.length = n) (hA : RdA w A xs) (h20 : n ≤ 1048576) (hw : ∀ x ∈ xs, smA x) :
    Calls Try.prog 33 #[.slice A n c] w (RetA 41 3 xs w) := by
  have HN := Lib.hid hn
  have HW := Lib.hid hw
  have HA := Lib.hid hA
  clear hn hw hA
  go_enter Try.func33, Try.ntmps33
  go_wp2_with fail
  go_loopw [3, 8] (fun v j wr => ∃ (k : Nat) (vs : List Value), k ≤ n ∧ j = .int .i64 k ∧ OwnA wr w.heap.size 41 3 v (xs.take k) vs ∧ Below w.heap.size w wr) (fun _ j _ => n - (intOf j).toNat)
  case atStart => exact ⟨0, [], Nat.zero_le _, rfl, ownA_nil w w.heap.size _ _, Below.refl _ _⟩
  case round =>
    obtain ⟨k, vs, hk, rfl, ho, hb⟩ := hrel
    have HO := Lib.hid ho
    have HB := Lib.hid hb
    have hs := hb.size
    clear ho
    by_cases hlt : k < n
    · obtain ⟨x, hxk⟩ : ∃ x, xs[k]? = some x := ⟨xs[k]'(by have := HN.out; omega), List.getElem?_eq_getElem _⟩
      obtain ⟨g, o, B, cb, D, cd, rfl, hrow0⟩ := HA.out.at hxk
      have HROW := Lib.hid hrow0
      obtain ⟨hcl, hsx, hsk⟩ := HW.out x (List.mem_of_getElem? hxk)
      have HCM : Hid (x.client.size ≤ maxLen) := Lib.hid hrow0.cs
      have HT := Lib.hid (show xs.take (k + 1) = xs.take k ++ [x] by rw [List.take_add_one, hxk]; rfl)
      have hyl : (xs.take k).length = k := by rw [List.length_take]; have := HN.out; omega
      have HYL := Lib.hid hyl
      obtain ⟨hg, -, c0, c1, c2, c3, c4, c5, -, -, -, -, -, -⟩ := hrow0.below hb
      clear hxk hrow0 hyl
      obtain ⟨W3, hW3⟩ : ∃ W3, W3 = wr.alloc (.cells #[.int .i64 x.id, .string x.client, .int .i64 x.sent, .slice B x.items.length cb, .slice D x.kept.length cd, .int .i64 x.back] 41) := ⟨_, rfl⟩
      have B3 : Hid (Below wr.heap.size wr W3) := Lib.hid (by rw [hW3]; exact (Below.refl _ _).alloc (Nat.le_refl _) _)
      have Y3 : Hid (Blk W3 wr.heap.size (row6 x (.slice B x.items.length cb) (.slice D x.kept.length cd))) := Lib.hid (by rw [hW3]; exact Blk.new _ _ _)
      have HZ3 : Hid (W3.heap.size = wr.heap.size + 1) := Lib.hid (by rw [hW3]; simp)
      have HBR := Lib.hid (HB.out.trans (B3.out.mono hs))
      have HW3 := Lib.hid hW3
      clear hW3
      have KE0 : W3.cell? ⟨wr.heap.size, 0, none⟩ = some (.int .i64 x.id) ∧ W3.cell? ⟨wr.heap.size, 3, none⟩ = some (.slice B x.items.length cb) ∧ W3.cell? ⟨wr.heap.size, 4, none⟩ = some (.slice D x.kept.length cd) ∧ W3.frozen? ⟨wr.heap.size, 3, none⟩ = false ∧ W3.frozen? ⟨wr.heap.size, 4, none⟩ = false ∧ wr.heap.size < W3.heap.size := ⟨Y3.out.cell 0 _ rfl, Y3.out.cell 3 _ rfl, Y3.out.cell 4 _ rfl, Y3.out.fr 3 (by simp [row6]), Y3.out.fr 4 (by simp [row6]), Y3.out.lt⟩
      go_wp2_with fail
      rw [← HW3.out]
      obtain ⟨k0, k3, k4, kf3, kf4, khl⟩ := KE0
      go_region_with (first
        | (go_at_call 34; (with_reducible refine (cloneInt_any B _ cb x.items _ rfl (HROW.out.below HBR.out).rB.drew hsx).mono ?_); rintro e w4 ⟨u1, rfl, o1, b4⟩; obtain ⟨A1, d1, rfl⟩ := own_form o1; have B4 : Hid (Below W3.heap.size W3 w4) := Lib.hid ((Below.refl _ _).drew.trans b4); have O1 : Hid (w4.ownsRow W3.heap.size 3 1 (.slice A1 x.items.length d1) x.items.length (cells1 x.items)) := Lib.hid o1; have HB4 := Lib.hid (HBR.out.trans (B4.out.mono HBR.out.size)); have m3 : w4.cell? ⟨wr.heap.size, 3, none⟩ = some (.slice B x.items.length cb) := (B4.out.cell (p := ⟨wr.heap.size, 3, none⟩) khl).trans k3; have m4 : w4.cell? ⟨wr.heap.size, 4, none⟩ = some (.slice D x.kept.length cd) := (B4.out.cell (p := ⟨wr.heap.size, 4, none⟩) khl).trans k4; have mf3 : w4.frozen? ⟨wr.heap.size, 3, none⟩ = false := (B4.out.frozen (p := ⟨wr.heap.size, 3, none⟩) khl).trans kf3; have mf4 : w4.frozen? ⟨wr.heap.size, 4, none⟩ = false := (B4.out.frozen (p := ⟨wr.heap.size, 4, none⟩) khl).trans kf4; have mhl : wr.heap.size < w4.heap.size := Nat.lt_of_lt_of_le khl B4.out.size; clear o1 b4)
        | (go_at_call 34; (with_reducible refine (cloneInt_any D _ cd x.kept _ rfl (by first | exact (HROW.out.below HB4.out).rD | exact (HROW.out.below HB4.out).rD.drew) hsk).mono ?_); rintro e w5 ⟨u2, rfl, o2, b5⟩; obtain ⟨A2, d2, rfl⟩ := own_form o2; have B5 : Hid (Below w4.heap.size w4 w5) := (by first | exact Lib.hid b5 | exact Lib.hid ((Below.refl _ _).drew.trans b5)); have O2 : Hid (w5.ownsRow w4.heap.size 3 1 (.slice A2 x.kept.length d2) x.kept.length (cells1 x.kept)) := Lib.hid o2; have B35 := Lib.hid (B4.out.trans (B5.out.mono B4.out.size)); have p3 : w5.cell? ⟨wr.heap.size, 3, none⟩ = some (.slice B x.items.length cb) := (B35.out.cell (p := ⟨wr.heap.size, 3, none⟩) khl).trans k3; have p4 : w5.cell? ⟨wr.heap.size, 4, none⟩ = some (.slice D x.kept.length cd) := (B35.out.cell (p := ⟨wr.heap.size, 4, none⟩) khl).trans k4; have pf3 : w5.frozen? ⟨wr.heap.size, 3, none⟩ = false := (B35.out.frozen (p := ⟨wr.heap.size, 3, none⟩) khl).trans kf3; have pf4 : w5.frozen? ⟨wr.heap.size, 4, none⟩ = false := (B35.out.frozen (p := ⟨wr.heap.size, 4, none⟩) khl).trans kf4; have phl : wr.heap.size < w5.heap.size := Nat.lt_of_lt_of_le khl B35.out.size; have s4 : (w5.setCell ⟨wr.heap.size, 3, none⟩ (.slice A1 x.items.length d1)).cell? ⟨wr.heap.size, 4, none⟩ = some (.slice D x.kept.length cd) := (World.cell?_setCell_other _ _ _ _ (by simp)).trans p4; have s3 : (w5.setCell ⟨wr.heap.size, 4, none⟩ (.slice A2 x.kept.length d2)).cell? ⟨wr.heap.size, 3, none⟩ = some (.slice B x.items.length cb) := (World.cell?_setCell_other _ _ _ _ (by simp)).trans p3; clear o2 b5))
      all_goals go_goals
      all_goals (
        first
          | (obtain ⟨W9, hW9⟩ : ∃ W, W = (w5.setCell ⟨wr.heap.size, 3, none⟩ (.slice A1 x.items.length d1)).setCell ⟨wr.heap.size, 4, none⟩ (.slice A2 x.kept.length d2) := ⟨_, rfl⟩
             rw [← hW9]
             have NA : NewA wr W9 wr.heap.size 3 x (.slice A1 x.items.length d1) (.slice A2 x.kept.length d2) := by rw [hW9]; exact (newA_i rfl Y3.out B3.out HZ3.out B4.out O1.out B5.out O2.out).1)
          | (obtain ⟨W9, hW9⟩ : ∃ W, W = (w5.setCell ⟨wr.heap.size, 4, none⟩ (.slice A2 x.kept.length d2)).setCell ⟨wr.heap.size, 3, none⟩ (.slice A1 x.items.length d1) := ⟨_, rfl⟩
             rw [← hW9]
             have NA : NewA wr W9 wr.heap.size 3 x (.slice A1 x.items.length d1) (.slice A2 x.kept.length d2) := by rw [hW9]; exact (newA_i rfl Y3.out B3.out HZ3.out B4.out O1.out B5.out O2.out).2)
        clear k0 k3 k4 kf3 kf4 khl c0 c1 c2 c3 c4 c5 m3 m4 mf3 mf4 mhl p3 p4 pf3 pf4 phl s3 s4
        have HNA := Lib.hid NA
        have w0 := NA.blk.cell 0 _ rfl
        have w1 := NA.blk.cell 1 _ rfl
        have w2 := NA.blk.cell 2 _ rfl
        have w3 := NA.blk.cell 3 _ rfl
        have w4x := NA.blk.cell 4 _ rfl
        have w5 := NA.blk.cell 5 _ rfl
        have hy7 := NA.blk.lt
        have hsW := NA.bx.size
        have hrow := fun q => own_below HO.out.2.1 (HNA.out.bx.alloc HNA.out.bx.size q)
        rw [HYL.out] at hrow
        have HRW := Lib.hid hrow
        clear hrow NA hW9
        go_wp2_with (at_builtin; go_must (refine wpList_app _ rfl (.tmp 20) (.tmp 22) 24 rfl w.heap.size 41 _ 6 88 Try.underlying24 info41 rfl (by omega) _ k _ rfl (HRW.out _) _ 1 1 [.int .i64 x.id, .string x.client, .int .i64 x.sent, .slice A1 x.items.length d1, .slice A2 x.kept.length d2, .int .i64 x.back] rfl rfl (rd_new #[.int .i64 x.id, .string x.client, .int .i64 x.sent, .slice A1 x.items.length d1, .slice A2 x.kept.length d2, .int .i64 x.back] 41 (by simp)) (by intro u hu; simp at hu; rcases hu with rfl | rfl | rfl | rfl | rfl | rfl <;> rfl) (by unfold maxLen; omega) (by omega) (by simp; omega) ?_); intro v' w' o' g' d')
        have hfin := HO.out.snoc (x := x) (HNA.out.bx.alloc HNA.out.bx.size _) hs (own_below HNA.out.oa ((Below.refl _ _).alloc (Nat.le_refl _) _)) (own_below HNA.out.ob ((Below.refl _ _).alloc (Nat.le_refl _) _)) HNA.out.ne HCM.out (by rw [HYL.out]; exact o') g' d'
        have HF := Lib.hid hfin
        have HBF := Lib.hid ((HB.out.trans ((HNA.out.bx.alloc HNA.out.bx.size _).mono hs)).trans (below_app (HRW.out _) g' (by simp; omega) (Nat.le_refl _)))
        clear hfin o' g' d'
        go_roundw
        case rel => exact ⟨k + 1, _, by omega, by go_num, by rw [HT.out]; exact HF.out, HBF.out⟩
        case measure => simp [intOf]; omega)
    · have hd : decide (k < n) = false := by simpa using hlt
      go_wp2
      go_ret
      have hkn : k = n := by omega
      refine ⟨_, vs, rfl, ?_, HB.out⟩
      have h1 := HO.out
      rw [List.take_of_length_le (by have := HN.out; omega)] at h1
      exact h1
end Go.Proofs.Ytogjcnfhfpgbfaa
