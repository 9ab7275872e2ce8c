/- Lists of auction steps; the auction and the steps that the law draws. -/
import Derived.Test.YtjnbcippipookaaAuZ2
namespace Go.Proofs.Ytjnbcippipookaa
set_option linter.unusedVariables false
set_option linter.unusedSimpArgs false
open Go.RowKit

def R4.cells (x : R4) : List Value := [.int .i64 x.a, .int .i64 x.b, .int .i64 x.c, .int .i64 x.d]
def cells4 (xs : List R4) : List Value := xs.flatMap R4.cells
theorem cells4_cons (x : R4) (xs : List R4) : cells4 (x :: xs) = x.cells ++ cells4 xs := rfl
theorem cells4_append (xs ys : List R4) : cells4 (xs ++ ys) = cells4 xs ++ cells4 ys := List.flatMap_append
theorem length_cells4 (xs : List R4) : (cells4 xs).length = xs.length * 4 := by
  induction xs with
  | nil => rfl
  | cons x xs ih => rw [cells4_cons, List.length_append, ih, List.length_cons]; simp [R4.cells]; omega
theorem cells4_get : ∀ (xs : List R4) (k : Nat) (x : R4), xs[k]? = some x → ∀ j, j < 4 → (cells4 xs)[k * 4 + j]? = x.cells[j]?
  | [], k, x, h, _, _ => by simp at h
  | y :: xs, 0, x, h, j, hj => by
    simp at h; subst h
    rw [cells4_cons, List.getElem?_append_left (by simp [R4.cells]; omega)]; simp
  | y :: xs, k + 1, x, h, j, hj => by
    rw [cells4_cons, List.getElem?_append_right (by simp [R4.cells]; omega)]
    have e : (k + 1) * 4 + j - y.cells.length = k * 4 + j := by simp [R4.cells]; omega
    rw [e]
    exact cells4_get xs k x (by simpa using h) j hj
theorem Rd.at4 {w : World} {A : Option Addr} {xs : List R4} (h : Rd w A (cells4 xs)) {k : Nat} {x : R4} (hk : xs[k]? = some x) :
    ∃ g o, A = some ⟨g, o, none⟩ ∧ g < w.heap.size ∧ w.cell? ⟨g, o + k * 4, none⟩ = some (.int .i64 x.a) ∧ w.cell? ⟨g, o + k * 4 + 1, none⟩ = some (.int .i64 x.b) ∧ w.cell? ⟨g, o + k * 4 + 2, none⟩ = some (.int .i64 x.c) ∧
      w.cell? ⟨g, o + k * 4 + 3, none⟩ = some (.int .i64 x.d) := by
  rcases h with h | ⟨g, o, h1, h2, h3⟩
  · have := length_cells4 xs
    rw [h] at this
    have h4 : k < xs.length := (List.getElem?_eq_some_iff.1 hk).1
    simp at this; omega
  · have hh : ∀ j, j < 4 → ∀ v, x.cells[j]? = some v → w.cell? ⟨g, o + k * 4 + j, none⟩ = some v := fun j hj v hv => by
      have := h3 (k * 4 + j) v (by rw [cells4_get xs k x hk j hj]; exact hv)
      rw [← Nat.add_assoc] at this; exact this
    exact ⟨g, o, h1, h2, hh 0 (by omega) _ rfl, hh 1 (by omega) _ rfl, hh 2 (by omega) _ rfl, hh 3 (by omega) _ rfl⟩
theorem oneCell_4 (x : R4) : ∀ u ∈ x.cells, u.oneCell' = true := by intro u hu; simp [R4.cells] at hu; rcases hu with rfl | rfl | rfl | rfl <;> rfl
theorem info26 : (Try.prog.info? 26).map (fun i => (i.zero, i.size, i.bytes)) = some (some (.agg #[.int .i64 0, .int .i64 0, .int .i64 0, .int .i64 0]), 4, 32) := by kernel_rfl
structure Lst4 (w : World) (v : Value) (ss : List R4) : Prop where
  form : ∃ A c, v = .slice A ss.length c ∧ Rd w A (cells4 ss) ∧ ss.length ≤ c ∧ c ≤ maxLen
  len : ss.length ≤ 60
theorem Lst4.of {w : World} {base e : Nat} {v : Value} {ss : List R4} (h : w.ownsRow base e 4 v ss.length (cells4 ss)) (hl : ss.length ≤ 60) : Lst4 w v ss := by
  obtain ⟨A, c, rfl⟩ := own_form h
  exact ⟨⟨A, c, rfl, Rd.of_own h, (own_capS h).1, (own_capS h).2⟩, hl⟩
theorem Lst4.below {w w' : World} {v : Value} {ss : List R4} (h : Lst4 w v ss) (hb : Below w.heap.size w w') : Lst4 w' v ss := by
  obtain ⟨⟨A, c, e, r, h1, h2⟩, hl⟩ := h
  exact ⟨⟨A, c, e, r.below hb, h1, h2⟩, hl⟩

/-- While the steps are drawn: the list, the auction now, the steps so far. -/
structure RRel (W : World) (p : Nat) (u : Cu) (vl : Value) (xs : List R5) (vn : Value) (now : List R5) (vs : Value) (ss : List R4) (k : Nat) (wr : World) : Prop where
  list : wr.ownsRow W.heap.size 36 5 vl xs.length (cells5 xs)
  now : wr.ownsRow W.heap.size 36 5 vn now.length (cells5 now)
  steps : wr.ownsRow W.heap.size 26 4 vs ss.length (cells4 ss)
  apl : ∀ k, vl.ownBlock = some k → vs.ownBlock ≠ some k
  apn : ∀ k, vn.ownBlock = some k → vs.ownBlock ≠ some k
  cur : CurB wr p u k
  gr : W.grownBy wr (some p)
theorem RRel.call {W wr w1 : World} {p k k1 : Nat} {u : Cu} {vl vn vs : Value} {xs now : List R5} {ss : List R4} (h : RRel W p u vl xs vn now vs ss k wr) (hp : p < W.heap.size) (hc : CurB w1 p u k1) (hg : wr.grownBy w1 (some p)) : RRel W p u vl xs vn now vs ss k1 w1 :=
  ⟨own_grown h.list hg hp, own_grown h.now hg hp, own_grown h.steps hg hp, h.apl, h.apn, hc, grown_trans h.gr hg⟩
theorem RRel.below {W wr w1 : World} {p k : Nat} {u : Cu} {vl vn vs : Value} {xs now : List R5} {ss : List R4} (h : RRel W p u vl xs vn now vs ss k wr) (hb : Below wr.heap.size wr w1) : RRel W p u vl xs vn now vs ss k w1 :=
  ⟨own_below h.list hb, own_below h.now hb, own_below h.steps hb, h.apl, h.apn, h.cur.grown hb, grown_trans h.gr (grown_below hb)⟩
theorem RRel.sz {W wr : World} {p k : Nat} {u : Cu} {vl vn vs : Value} {xs now : List R5} {ss : List R4} (h : RRel W p u vl xs vn now vs ss k wr) : W.heap.size ≤ wr.heap.size := h.gr.size
theorem RRel.new {W wr w1 : World} {p k : Nat} {u : Cu} {vl vn vs vn' : Value} {xs now now' : List R5} {ss : List R4} (h : RRel W p u vl xs vn now vs ss k wr) (ho : w1.ownsRow wr.heap.size 36 5 vn' now'.length (cells5 now')) (hb : Below wr.heap.size wr w1) : RRel W p u vl xs vn' now' vs ss k w1 := by
  have h1 := h.below hb
  refine ⟨h1.list, own_mono ho h.sz, h1.steps, h.apl, fun q hq e => ?_, h1.cur, h1.gr⟩
  have := (ho.lt q hq).1
  have := (h.steps.lt q e).2
  omega
theorem RRel.push {W wr w1 w2 : World} {p k : Nat} {u : Cu} {vl vn vs vs' : Value} {xs now : List R5} {ss : List R4} {x : R4} (h : RRel W p u vl xs vn now vs ss k wr) (hp : p < W.heap.size) (hb : Below wr.heap.size wr w1) (ho : w2.ownsRow W.heap.size 26 4 vs' (ss.length + 1) (cells4 ss ++ x.cells)) (hg : w1.grownBy w2 vs.ownBlock)
    (hd : vs'.ownBlock = vs.ownBlock ∨ vs'.ownBlock = some w1.heap.size) : RRel W p u vl xs vn now vs' (ss ++ [x]) k w2 := by
  have h1 := h.below hb
  have e : cells4 (ss ++ [x]) = cells4 ss ++ x.cells := by rw [cells4_append, cells4_cons]; simp [cells4]
  have hlo : ∀ b, vs.ownBlock = some b → W.heap.size ≤ b := fun b hv => (h1.steps.lt b hv).1
  have ap : ∀ (v : Value), (∀ q, v.ownBlock = some q → vs.ownBlock ≠ some q) → v.ownBlock = none ∨ v.ownBlock ≠ vs.ownBlock := fun v hv => by
    cases ev : v.ownBlock with
    | none => exact .inl rfl
    | some q => exact .inr fun e2 => hv q ev e2.symm
  refine ⟨h1.list.kept hg (ap _ h.apl), h1.now.kept hg (ap _ h.apn), by rw [e, List.length_append]; exact ho, fun q hq e2 => ?_, fun q hq e2 => ?_, ?_, ?_⟩
  · rcases hd with e3 | e3
    · exact h.apl q hq (by rw [← e3]; exact e2)
    · rw [e3] at e2; injection e2 with e2
      have := (h1.list.lt q hq).2; omega
  · rcases hd with e3 | e3
    · exact h.apn q hq (by rw [← e3]; exact e2)
    · rw [e3] at e2; injection e2 with e2
      have := (h1.now.lt q hq).2; omega
  · obtain ⟨⟨s, K⟩, r, f, b, l⟩ := h1.cur
    exact ⟨⟨s, K.grown hg (fun e => by have := hlo p e.symm; omega)⟩, rdU r f hg (fun b hb => by have := hlo b hb; omega), f, b, l⟩
  · exact ⟨hg.os.trans h1.gr.os, hg.tape.trans h1.gr.tape, hg.output.trans h1.gr.output, Nat.le_trans h1.gr.size hg.size, fun b hb hne => (hg.block b (Nat.lt_of_lt_of_le hb h1.gr.size) (fun e => by have := hlo b e.symm; omega)).trans (h1.gr.block b hb hne)⟩

def lenV : Value → Nat
  | .slice _ n _ => n
  | _ => 0
def RetDR (W : World) : Ending → World → Prop := fun e w' => ∃ v xs v2 ss, e = .returned (.tuple #[v, v2]) ∧ Lst w' v xs ∧ Lst4 w' v2 ss ∧ Below W.heap.size W w'
set_option maxRecDepth 20000 in
set_option maxHeartbeats 4000000 in
theorem drawRunAuction_any (B : Option Addr) (n c : Nat) (zs : List Int) (w : World) (hn : zs.length = n) (hB : Bytes w B zs) :
    Calls Try.prog 13 #[.slice B n c] w (RetDR w) := by
  subst hn
  have HC0 := Lib.hid (CurB.new hB c 45)
  obtain ⟨u, hu⟩ : ∃ u : Cu, u = ⟨B, c, zs⟩ := ⟨_, rfl⟩
  rw [← hu] at HC0
  clear hu hB
  have AU := Lib.hid (fun k w_ h hk => auction_any w.heap.size k u w_ h hk)
  have ST := Lib.hid (fun k A n c xs w_ hn hn2 hd hA hf h hk => auctionStep_any w.heap.size k u A n c xs w_ hn hn2 hd hA hf h hk)
  have PK := Lib.hid (fun k m w_ h hk hm hm2 => pick_any w.heap.size k m u w_ h hk hm hm2)
  have ON := Lib.hid (fun k m w_ h hk hm hm2 => one_any w.heap.size k m u w_ h hk hm hm2)
  obtain ⟨wc, hwc⟩ : ∃ wc, wc = w.alloc (.cells #[.slice B zs.length c, .int .i64 0, .int .u64 0] 45) := ⟨_, rfl⟩
  have HC1 : Hid (CurB wc w.heap.size u 0) := Lib.hid (by rw [hwc]; exact HC0.out)
  have hbc : Below w.heap.size w wc := by rw [hwc]; exact (Below.refl _ _).alloc (Nat.le_refl _) _
  have hpc : w.heap.size < wc.heap.size := by rw [hwc]; simp
  have HBC := Lib.hid hbc
  clear HC0 hbc
  go_enter Try.func13, Try.ntmps13
  go_wp2_with fail
  rw [← hwc]
  clear hwc
  refine (AU.out 0 _ HC1.out (by omega)).mono ?_
  rintro e w1 ⟨v1, xs, k1, rfl, o1, hx9, hdx, hk1, hc, hg⟩
  obtain ⟨A, ca, rfl⟩ := own_form o1
  have hs1 := hg.size
  have HD := Lib.hid hdx
  have HR0 : Hid (RRel wc w.heap.size u (.slice A xs.length ca) xs (.slice A xs.length ca) xs (.slice (some ⟨w1.heap.size, 0, none⟩) 0 0) [] k1 (w1.alloc (.cells #[] 26))) := Lib.hid (by
    have hb := (Below.refl w1.heap.size w1).alloc (Nat.le_refl _) (.cells #[] 26)
    have hap : ∀ k, (Value.slice A xs.length ca).ownBlock = some k → (Value.slice (some ⟨w1.heap.size, 0, none⟩) 0 0).ownBlock ≠ some k := fun k hk e => by
      have := (o1.lt k hk).2
      simp only [Value.ownBlock, Option.map_some, Option.some.injEq] at e
      omega
    exact ⟨own_below o1 hb, own_below o1 hb, own_empty w1 _ _ _ hs1, hap, hap, hc.grown hb, grown_trans hg (grown_below hb)⟩)
  clear o1 hc hg HC1 hdx
  go_wp2_with fail
  refine (PK.out k1 12 _ HR0.out.cur (by omega) (by decide) (by decide)).mono ?_
  rintro e w2 ⟨v2, k2, rfl, ⟨r2, rfl, a2, b2⟩, hk2, hc, hg⟩
  obtain ⟨m, rfl⟩ : ∃ m : Nat, r2 = m := ⟨r2.toNat, by omega⟩
  have hm : m ≤ 11 := by omega
  have HR2 := Lib.hid (HR0.out.call hpc hc hg)
  clear a2 b2 hc hg HR0
  go_wp2_with fail
  go_loopw [6, 7, 8, 9, 10, 11] (fun vs vn i _ _ _ wr => ∃ (j : Nat) (now : List R5) (ss : List R4) (kk : Nat), i = .int .i64 j ∧ j ≤ m ∧ ss.length + j = m ∧ now.length ≤ 9 ∧ dB now ∧ kk + 62 * j ≤ k2 + 62 * m ∧ RRel wc w.heap.size u (.slice A xs.length ca) xs vn now vs ss kk wr) (fun _ _ i _ _ _ _ => (intOf i).toNat)
  case atStart => exact ⟨m, xs, [], k2, rfl, by omega, by simp, hx9, HD.out, by omega, HR2.out⟩
  case round =>
    obtain ⟨j, now, ss, kk, rfl, hj, hss, hn9, hdn, hkk, hR⟩ := hrel
    obtain ⟨An, cn, rfl⟩ := own_form hR.now
    obtain ⟨As, cs, rfl⟩ := own_form hR.steps
    have HR := Lib.hid hR
    have HDN := Lib.hid hdn
    have HSS := Lib.hid hss
    have hsl : ss.length ≤ 11 := by omega
    clear hR HR2 hdn hss
    by_cases hj0 : 0 < j
    · have hj0' : (0 : Int) < (j : Int) := by omega
      go_wp2_with fail
      refine (ST.out kk An now.length cn now _ rfl (by omega) HDN.out (Rd.of_own HR.out.now) (own_far HR.out.now hpc) HR.out.cur (by omega)).mono ?_
      rintro e w3 ⟨v3, k3, rfl, ⟨q1, q2, q3, q4, rfl⟩, hk3, hc, hg⟩
      have HR3 := Lib.hid (HR.out.call hpc hc hg)
      clear hc hg HR
      obtain ⟨x, hx⟩ : ∃ x : R4, x = ⟨q1, q2, q3, q4⟩ := ⟨_, rfl⟩
      have hb1 : Below w3.heap.size w3 ((w3.alloc (.cells #[.int .i64 q1, .int .i64 q2, .int .i64 q3, .int .i64 q4] 26)).alloc (.cells #[.int .i64 q1, .int .i64 q2, .int .i64 q3, .int .i64 q4] 26)) := ((Below.refl _ _).alloc (Nat.le_refl _) _).alloc (by simp) _
      have HO := Lib.hid (HR3.out.below hb1).steps
      have HXr : Hid (Rd ((w3.alloc (.cells #[.int .i64 q1, .int .i64 q2, .int .i64 q3, .int .i64 q4] 26)).alloc (.cells #[.int .i64 q1, .int .i64 q2, .int .i64 q3, .int .i64 q4] 26)) (some ⟨w3.heap.size + 1, 0, none⟩) x.cells) := Lib.hid (by rw [hx]; exact rd_new (w := w3.alloc (.cells #[.int .i64 q1, .int .i64 q2, .int .i64 q3, .int .i64 q4] 26)) #[.int .i64 q1, .int .i64 q2, .int .i64 q3, .int .i64 q4] 26 (by simp))
      have hbs : wc.heap.size ≤ ((w3.alloc (.cells #[.int .i64 q1, .int .i64 q2, .int .i64 q3, .int .i64 q4] 26)).alloc (.cells #[.int .i64 q1, .int .i64 q2, .int .i64 q3, .int .i64 q4] 26)).heap.size := by have := HR3.out.sz; simp; omega
      have KS : Blk ((w3.alloc (.cells #[.int .i64 q1, .int .i64 q2, .int .i64 q3, .int .i64 q4] 26)).alloc (.cells #[.int .i64 q1, .int .i64 q2, .int .i64 q3, .int .i64 q4] 26)) w3.heap.size [.int .i64 q1, .int .i64 q2, .int .i64 q3, .int .i64 q4] := (Blk.new w3 [.int .i64 q1, .int .i64 q2, .int .i64 q3, .int .i64 q4] _).alloc _
      go_wp2_with (at_builtin; go_must (refine wpList_app _ rfl (.tmp 28) (.tmp 30) 37 rfl wc.heap.size 26 _ 4 32 Try.underlying37 info26 rfl (by omega) _ _ _ rfl HO.out _ 1 1 x.cells rfl rfl HXr.out (oneCell_4 x) (by unfold maxLen; omega) (by omega) hbs ?_); intro v6 w6 o6 g6 d6; refine Hid.out ?_)
      have HR6 := Lib.hid (HR3.out.push (x := x) hpc hb1 o6 g6 d6)
      have KS6 := KS.grown g6 (own_ne HR3.out.steps (Nat.le_refl _))
      clear o6 g6 d6 HO HXr hbs hx hb1 KS HR3
      refine Lib.hid ?_
      have s0 := KS6.cell 0 _ rfl
      have s1 := KS6.cell 1 _ rfl
      have s2 := KS6.cell 2 _ rfl
      have s3 := KS6.cell 3 _ rfl
      go_wp2_with fail
      refine (specStepAuction_any An now.length cn now q1 q2 q3 q4 _ rfl (Rd.of_own HR6.out.now) (by omega) (own_capS HR6.out.now).1 (own_capS HR6.out.now).2).mono ?_
      rintro e w7 ⟨v7, rfl, o7, b7⟩
      obtain ⟨A7, c7, rfl⟩ := own_form o7
      clear s0 s1 s2 s3
      have hsl2 : (ss ++ [x]).length + (j - 1) = m := by have := HSS.out; simp; omega
      have HS2 := Lib.hid hsl2
      clear hsl2
      cases hB : stpB now q1 q2 q3 q4 with
      | true =>
        have HR7 := Lib.hid (HR6.out.new o7 b7)
        have HX7 := Lib.hid (stp_auc hB).1
        clear o7 b7 hB HR6
        go_wp2
        go_roundw
        case rel => exact ⟨j - 1, _, _, k3, by go_num, by omega, HS2.out, by have := auc_len HX7.out; omega, dB_auc HX7.out, by omega, HR7.out⟩
        case measure => simp [intOf]; omega
      | false =>
        have HR7 := Lib.hid (HR6.out.below b7)
        clear o7 b7 hB HR6
        go_wp2
        go_roundw
        case rel => exact ⟨j - 1, _, _, k3, by go_num, by omega, HS2.out, hn9, HDN.out, by omega, HR7.out⟩
        case measure => simp [intOf]; omega
    · obtain rfl : j = 0 := by omega
      go_wp2_with fail
      refine (ON.out kk 24 _ HR.out.cur (by omega) (by decide) (by decide)).mono ?_
      rintro e w3 ⟨v3, k3, rfl, ⟨b3, rfl⟩, hk3, hc, hg⟩
      have HR3 := Lib.hid (HR.out.call hpc hc hg)
      clear hc hg HR
      cases b3 with
      | false =>
        go_wp2
        go_ret2
        exact ⟨_, xs, _, ss, rfl, Lst.of HR3.out.list (by omega), Lst4.of HR3.out.steps (by omega), HBC.out.grown HR3.out.gr (by omega) (fun k hk => by injection hk with hk; omega)⟩
      | true =>
        go_wp2_with fail
        go_loopw [6] (fun vs wr => ∃ (ss : List R4) (kk : Nat), ss.length ≤ 42 ∧ kk ≤ k3 + 2 * (ss.length) ∧ RRel wc w.heap.size u (.slice A xs.length ca) xs (.slice An now.length cn) now vs ss kk wr) (fun vs _ => 50 - lenV vs)
        case atStart => exact ⟨ss, k3, by omega, by omega, HR3.out⟩
        case round =>
          obtain ⟨ss, kk, hsl, hkk, hR⟩ := hrel
          obtain ⟨As, cs, rfl⟩ := own_form hR.steps
          have HR := Lib.hid hR
          obtain ⟨q, hq⟩ : ∃ q, q = ss.length := ⟨_, rfl⟩
          have HQ := Lib.hid hq
          rw [← hq] at hsl hkk ⊢
          clear hR HR3 hq
          go_wp2_with fail
          refine (PK.out kk 2 _ HR.out.cur (by omega) (by decide) (by decide)).mono ?_
          rintro e w5 ⟨v5, k5, rfl, ⟨r5, rfl, a5, b5⟩, hk5, hc, hg⟩
          have HR5 := Lib.hid (HR.out.call hpc hc hg)
          have b5 : r5 ≤ 1 := by simpa using b5
          clear hc hg HR
          have hw1 : IntKind.i64.wrap (40 + r5) = 40 + r5 := IntWalk.i64_in _ (by omega)
          by_cases hlt : (q : Int) < 40 + r5
          · obtain ⟨x, hx⟩ : ∃ x : R4, x = ⟨5, 0, 0, 0⟩ := ⟨_, rfl⟩
            have hb1 : Below w5.heap.size w5 (w5.alloc (.cells #[.int .i64 5, .int .i64 0, .int .i64 0, .int .i64 0] 26)) := (Below.refl _ _).alloc (Nat.le_refl _) _
            have HO := Lib.hid (HR5.out.below hb1).steps
            rw [← HQ.out] at HO
            have HXr : Hid (Rd (w5.alloc (.cells #[.int .i64 5, .int .i64 0, .int .i64 0, .int .i64 0] 26)) (some ⟨w5.heap.size, 0, none⟩) x.cells) := Lib.hid (by rw [hx]; exact rd_new (w := w5) #[.int .i64 5, .int .i64 0, .int .i64 0, .int .i64 0] 26 rfl)
            have hbs : wc.heap.size ≤ (w5.alloc (.cells #[.int .i64 5, .int .i64 0, .int .i64 0, .int .i64 0] 26)).heap.size := by have := HR5.out.sz; simp; omega
            go_wp2_with (at_builtin; go_must (refine wpList_app _ rfl (.tmp 48) (.tmp 50) 37 rfl wc.heap.size 26 _ 4 32 Try.underlying37 info26 rfl (by omega) _ _ _ rfl HO.out _ 1 1 x.cells rfl rfl HXr.out (oneCell_4 x) (by unfold maxLen; omega) (by omega) hbs ?_); intro v6 w6 o6 g6 d6; refine Hid.out ?_)
            rw [HQ.out] at o6 g6 d6
            have HR6 := Lib.hid (HR5.out.push (x := x) hpc hb1 o6 g6 d6)
            obtain ⟨A6, c6, e6⟩ := own_form HR6.out.steps
            subst e6
            clear o6 g6 d6 HO HXr hbs hx hb1 HR5
            have hl6 : (ss ++ [x]).length = q + 1 := by rw [HQ.out]; simp
            have HL6 := Lib.hid hl6
            rw [hl6] at HR6 ⊢
            clear hl6
            refine Lib.hid ?_
            go_wp2
            go_roundw
            case rel => exact ⟨ss ++ [x], k5, by rw [HL6.out]; omega, by rw [HL6.out]; omega, by rw [← HL6.out] at HR6 ⊢; exact HR6.out⟩
            case measure => simp [lenV]; omega
          · have hle : 40 + r5 ≤ (q : Int) := by omega
            go_wp2
            go_ret2
            exact ⟨.slice A xs.length ca, xs, .slice As q cs, ss, rfl, Lst.of HR5.out.list (by omega), by have h := Lst4.of HR5.out.steps (by have := HQ.out; omega); rw [← HQ.out] at h; exact h, HBC.out.grown HR5.out.gr (by omega) (fun k hk => by injection hk with hk; omega)⟩
end Go.Proofs.Ytjnbcippipookaa
