/- What the cursor draws of approvals: a client, an item, an approval. -/
import Derived.Test.YtehohkdipfphmaaDoorDrA1
namespace Go.Proofs.YtehohkdipfphmaaDoor
set_option linter.unusedVariables false
set_option linter.unusedSimpArgs false
open Go.RowKit

theorem upon_of_wp {P : Program} {o : Oper} {a : Act} {w : World} {K : Act → World → Prop} {Q : Exit → Act → World → Prop} {R : Result Next} (h : o.wp P a w K Q) (e : (execOp a.eval o).run P w = R) : o.upon P a K Q R := by rw [← e]; exact h
theorem CurB.low {w w' : World} {p k B : Nat} {u : Cu} (h : CurB w p u k) (hb : Below B w w') (hp : p < B) : CurB w' p u k := by
  obtain ⟨⟨s, K⟩, r, f, by_, l⟩ := h
  refine ⟨⟨s, K.below hb hp⟩, ?_, f, by_, l⟩
  rcases r with r | ⟨g, o, e, hg, hc⟩
  · exact .inl r
  · by_cases h0 : u.zs = []
    · left; simp [cellsU, h0]
    · have hgp := f h0 g o none e
      exact .inr ⟨g, o, e, Nat.lt_of_lt_of_le hg hb.size, fun q x hx => (hb.cell (p := ⟨g, _, none⟩) (Nat.lt_trans hgp hp)).trans (hc q x hx)⟩
theorem grown_low {W w w' : World} {row : Option Nat} (g : W.grownBy w row) (hb : Below W.heap.size w w') : W.grownBy w' row :=
  ⟨hb.os.trans g.os, hb.tape.trans g.tape, hb.output.trans g.output, Nat.le_trans g.size hb.size, fun b h1 h2 => (hb.block b h1).trans (g.block b h1 h2)⟩
theorem own_cut {w : World} {base e n c m : Nat} {A : Option Addr} {cs : List Value} (h : w.ownsRow base e 1 (.slice A n c) n cs) (hm : m ≤ n) (h0 : 0 < n) : w.ownsRow base e 1 (.slice A m c) m (cs.take m) := by
  have hl := h.1
  rcases h.2 with ⟨h', h0'⟩ | ⟨g, cap, cur, h', hb, hg, hnc, hcm, hcs, ht⟩
  · omega
  · injection h' with e1 e2 e3
    subst e1; subst e3
    refine ⟨by rw [List.length_take]; omega, .inr ⟨g, c, cur, rfl, hb, hg, by omega, hcm, hcs, ?_⟩⟩
    rw [← ht, List.take_take]; congr 1; omega

/-- An approval under way: its box, its slices' rows above the box, the box of the result still as it was made. -/
structure XRel (W : World) (EI p rr rb : Nat) (u : Cu) (x : AR) (a b : Value) (k : Nat) (wr : World) : Prop where
  cur : CurB wr p u k
  gr : W.grownBy wr (some p)
  box : Blk wr rb (row6 x a b)
  res : Blk wr rr [.int .i64 0, .string ⟨#[]⟩, .int .i64 0, .slice none 0 0, .slice none 0 0, .int .i64 0]
  oa : wr.ownsRow (rb + 1) EI 1 a x.items.length (cells1 x.items)
  ob : wr.ownsRow (rb + 1) EI 1 b x.kept.length (cells1 x.kept)
  ne : ∀ q, a.ownBlock = some q → b.ownBlock = some q → False
  hp : p < W.heap.size
  hrr : W.heap.size ≤ rr
  hrb : rr < rb
namespace XRel
variable {W wr w1 w2 : World} {EI p rr rb k k1 : Nat} {u : Cu} {x y : AR} {a b a' b' : Value}
theorem call (h : XRel W EI p rr rb u x a b k wr) (hc : CurB w1 p u k1) (hg : wr.grownBy w1 (some p)) : XRel W EI p rr rb u x a b k1 w1 := by
  have h1 := h.hp; have h2 := h.hrr; have h3 := h.hrb
  exact ⟨hc, grown_trans h.gr hg, h.box.grown hg (fun e => by injection e with e; omega), h.res.grown hg (fun e => by injection e with e; omega), own_grown h.oa hg (by omega), own_grown h.ob hg (by omega), h.ne, h1, h2, h3⟩
theorem below (h : XRel W EI p rr rb u x a b k wr) (hb : Below wr.heap.size wr w1) : XRel W EI p rr rb u x a b k w1 :=
  ⟨h.cur.grown hb, grown_trans h.gr (grown_below hb), h.box.below hb h.box.lt, h.res.below hb h.res.lt, own_below h.oa hb, own_below h.ob hb, h.ne, h.hp, h.hrr, h.hrb⟩
theorem low (h : XRel W EI p rr rb u x a b k wr) (hb : Below W.heap.size wr w1) (box : Blk w1 rb (row6 y a' b')) (res : Blk w1 rr [.int .i64 0, .string ⟨#[]⟩, .int .i64 0, .slice none 0 0, .slice none 0 0, .int .i64 0])
    (oa : w1.ownsRow (rb + 1) EI 1 a' y.items.length (cells1 y.items)) (ob : w1.ownsRow (rb + 1) EI 1 b' y.kept.length (cells1 y.kept)) (ne : ∀ q, a'.ownBlock = some q → b'.ownBlock = some q → False) : XRel W EI p rr rb u y a' b' k w1 :=
  ⟨h.cur.low hb h.hp, grown_low h.gr hb, box, res, oa, ob, ne, h.hp, h.hrr, h.hrb⟩
theorem bset (h : XRel W EI p rr rb u x a b k wr) (hb : Below wr.heap.size wr w1) (i : Nat) (v : Value) : Below W.heap.size wr (w1.setCell ⟨rb, i, none⟩ v) := by
  have h2 := h.hrr; have h3 := h.hrb
  exact (hb.mono h.gr.size).setCell (by show W.heap.size ≤ rb; omega) v
/-- A field that is no slice. -/
theorem put (h : XRel W EI p rr rb u x a b k wr) {i : Nat} (hi : i < 6) {v : Value} (hy : (row6 x a b).set i v = row6 y a b) (h1 : y.items = x.items) (h2 : y.kept = x.kept) : XRel W EI p rr rb u y a b k (wr.setCell ⟨rb, i, none⟩ v) := by
  have h3 := h.hrb
  refine h.low (h.bset (Below.refl _ _) i v) (by rw [← hy]; exact h.box.set (by simp [row6]; omega) v) (h.res.other (by omega) v) ?_ ?_ h.ne
  · rw [h1]; exact own_only h.oa (only_set wr rb i v) (fun q hq e => by have := (h.oa.lt q hq).1; omega)
  · rw [h2]; exact own_only h.ob (only_set wr rb i v) (fun q hq e => by have := (h.ob.lt q hq).1; omega)
/-- Other items. -/
theorem putA (h : XRel W EI p rr rb u x a b k wr) (hb : Below wr.heap.size wr w1) {zs : List Int} (ho : w1.ownsRow (rb + 1) EI 1 a' zs.length (cells1 zs)) (hne : ∀ q, a'.ownBlock = some q → b.ownBlock = some q → False) : XRel W EI p rr rb u { x with items := zs } a' b k (w1.setCell ⟨rb, 3, none⟩ a') := by
  have h3 := h.hrb
  have hn := h.below hb
  refine h.low (h.bset hb 3 a') (hn.box.set (i := 3) (by simp [row6]) a') (hn.res.other (by omega) a') ?_ ?_ hne
  · exact own_only ho (only_set w1 rb 3 a') (fun q hq e => by have := (ho.lt q hq).1; omega)
  · exact own_only hn.ob (only_set w1 rb 3 a') (fun q hq e => by have := (hn.ob.lt q hq).1; omega)
/-- Other kept items. -/
theorem putB (h : XRel W EI p rr rb u x a b k wr) (hb : Below wr.heap.size wr w1) {zs : List Int} (ho : w1.ownsRow (rb + 1) EI 1 b' zs.length (cells1 zs)) (hne : ∀ q, a.ownBlock = some q → b'.ownBlock = some q → False) : XRel W EI p rr rb u { x with kept := zs } a b' k (w1.setCell ⟨rb, 4, none⟩ b') := by
  have h3 := h.hrb
  have hn := h.below hb
  refine h.low (h.bset hb 4 b') (hn.box.set (i := 4) (by simp [row6]) b') (hn.res.other (by omega) b') ?_ ?_ hne
  · exact own_only hn.oa (only_set w1 rb 4 b') (fun q hq e => by have := (hn.oa.lt q hq).1; omega)
  · exact own_only ho (only_set w1 rb 4 b') (fun q hq e => by have := (ho.lt q hq).1; omega)
/-- One more kept item. -/
theorem push (h : XRel W EI p rr rb u x a b k wr) (hb : Below wr.heap.size wr w1) {z : Int} (ho : w2.ownsRow (rb + 1) EI 1 b' (x.kept.length + 1) (cells1 x.kept ++ [.int .i64 z])) (hg : w1.grownBy w2 b.ownBlock) (hd : b'.ownBlock = b.ownBlock ∨ b'.ownBlock = some w1.heap.size) :
    XRel W EI p rr rb u { x with kept := x.kept ++ [z] } a b' k (w2.setCell ⟨rb, 4, none⟩ b') := by
  have h3 := h.hrb; have h2 := h.hrr
  have hn := h.below hb
  have hbl : ∀ q, b.ownBlock = some q → rb + 1 ≤ q := fun q hq => (hn.ob.lt q hq).1
  have hw2 : Below W.heap.size wr w2 := (hb.mono h.gr.size).grown hg (Nat.le_trans h.gr.size hb.size) (fun q hq => by have := hbl q hq; omega)
  have box2 := hn.box.grown hg (fun e => by have := hbl rb e.symm; omega)
  have res2 := hn.res.grown hg (fun e => by have := hbl rr e.symm; omega)
  have oa2 := hn.oa.kept hg (by
    rcases ha : a.ownBlock with _ | q
    · exact .inl rfl
    · exact .inr (fun e => h.ne q ha e.symm))
  refine h.low (hw2.setCell (p := ⟨rb, 4, none⟩) (by show W.heap.size ≤ rb; omega) b') (box2.set (i := 4) (by simp [row6]) b') (res2.other (by omega) b') ?_ ?_ ?_
  · exact own_only oa2 (only_set w2 rb 4 b') (fun q hq e => by have := (oa2.lt q hq).1; omega)
  · have ho' : w2.ownsRow (rb + 1) EI 1 b' (x.kept ++ [z]).length (cells1 (x.kept ++ [z])) := by rw [cells1_append, List.length_append]; exact ho
    exact own_only ho' (only_set w2 rb 4 b') (fun q hq e => by have := (ho'.lt q hq).1; omega)
  · intro q hq hq2
    rcases hd with e | e
    · exact h.ne q hq (e ▸ hq2)
    · rw [e] at hq2; injection hq2 with hq2; have := (hn.oa.lt q hq).2; omega
/-- The result is written. -/
theorem fin (h : XRel W EI p rr rb u x a b k wr) : let w' := (((((wr.setCell ⟨rr, 0, none⟩ (.int .i64 x.id)).setCell ⟨rr, 1, none⟩ (.string x.client)).setCell ⟨rr, 2, none⟩ (.int .i64 x.sent)).setCell ⟨rr, 3, none⟩ a).setCell ⟨rr, 4, none⟩ b).setCell ⟨rr, 5, none⟩ (.int .i64 x.back)
    StI (fun q => q < W.heap.size) w' a x.items ∧ StI (fun q => q < W.heap.size) w' b x.kept ∧ CurB w' p u k ∧ W.grownBy w' (some p) := by
  intro w'
  have h1 := h.hp; have h2 := h.hrr; have h3 := h.hrb
  have hw : Only (fun q => q = rr) wr w' := (((((only_set wr rr 0 _).trans (only_set _ rr 1 _)).trans (only_set _ rr 2 _)).trans (only_set _ rr 3 _)).trans (only_set _ rr 4 _)).trans (only_set _ rr 5 _)
  have hb : Below W.heap.size wr w' := hw.below (fun q e => by have e : q = rr := e; omega) h.gr.size
  refine ⟨StI.of_own (own_only h.oa hw (fun q hq e => ?_)) (fun q hq e => ?_), StI.of_own (own_only h.ob hw (fun q hq e => ?_)) (fun q hq e => ?_), h.cur.low hb h1, grown_low h.gr hb⟩
  · have := (h.oa.lt q hq).1; have e : q = rr := e; omega
  · have := (h.oa.lt q hq).1; have e : q < W.heap.size := e; omega
  · have := (h.ob.lt q hq).1; have e : q = rr := e; omega
  · have := (h.ob.lt q hq).1; have e : q < W.heap.size := e; omega
end XRel
/-- The call returns an approval whose slices stay readable, whatever happens in old blocks; the cursor is d bytes further at most. -/
def RetX (p : Nat) (u : Cu) (k d : Nat) (W : World) : Ending → World → Prop := fun e w' => ∃ x a b k', e = .returned (.agg #[.int .i64 x.id, .string x.client, .int .i64 x.sent, a, b, .int .i64 x.back]) ∧ StI (fun q => q < W.heap.size) w' a x.items ∧ StI (fun q => q < W.heap.size) w' b x.kept ∧ dsA x ∧ k' ≤ k + d ∧ CurB w' p u k' ∧ W.grownBy w' (some p)

set_option maxRecDepth 20000 in
set_option maxHeartbeats 2000000 in
theorem client28_any (p k : Nat) (u : Cu) (w : World) (h : CurB w p u k) (hk : k ≤ 900000) :
    Calls Tryd.prog 53 #[.pointer (some ⟨p, 0, none⟩)] w (RetC p u k 2 (TextV 10) w) := by
  have OF := Lib.hid (fun k n c N A ts w h hk hz hn hn2 hA hf hN => of_any p k n c N u A ts w h hk hz hn hn2 hA hf hN)
  have HC := Lib.hid h
  clear h
  go_enter Tryd.func53, Tryd.ntmps53
  go_wp2_with fail
  refine (OF.out k 4 _ 10 (some ⟨w.heap.size, 0, none⟩) [⟨#[97, 110, 110, 97]⟩, ⟨#[98, 111]⟩, ⟨#[98, 111]⟩, ⟨#[99, 97, 114, 108]⟩] _ (HC.out.alloc _) (by omega) rfl (by decide) (by decide) (rd_texts (w := w) [⟨#[97, 110, 110, 97]⟩, ⟨#[98, 111]⟩, ⟨#[98, 111]⟩, ⟨#[99, 97, 114, 108]⟩] 9) (fun g o q e => by have := HC.out.lt; injection e with e; injection e with e; omega) (by decide)).mono ?_
  rintro e w1 ⟨vw1, k1, rfl, ⟨s1, rfl, hs1⟩, hk1, hc, hg⟩
  go_wp2
  go_ret
  exact ⟨_, k1, rfl, ⟨s1, rfl, hs1⟩, hk1, hc, grown_trans (World.grownBy_alloc w _ _) hg⟩

set_option maxRecDepth 20000 in
set_option maxHeartbeats 2000000 in
theorem clientAsk_any (p k : Nat) (u : Cu) (w : World) (h : CurB w p u k) (hk : k ≤ 800000) :
    Calls Tryd.prog 24 #[.pointer (some ⟨p, 0, none⟩)] w (RetC p u k 4 (TextV 10) w) := by
  have OF := Lib.hid (fun k n c N A ts w h hk hz hn hn2 hA hf hN => of_any p k n c N u A ts w h hk hz hn hn2 hA hf hN)
  have CL := Lib.hid (fun k w h hk => client28_any p k u w h hk)
  have ON := Lib.hid (fun k m w h hk hm hm2 => one_any p k m u w h hk hm hm2)
  have HC := Lib.hid h
  clear h
  go_enter Tryd.func24, Tryd.ntmps24
  go_wp2_with fail
  refine (ON.out k 10 _ HC.out (by omega) (by decide) (by decide)).mono ?_
  rintro e w1 ⟨v1, k1, rfl, ⟨b1, rfl⟩, hk1, hc, hg⟩
  have HC1 := Lib.hid hc
  have HG1 := Lib.hid hg
  clear hc hg
  cases b1 with
  | true =>
    go_wp2_with fail
    refine (OF.out k1 3 _ 10 (some ⟨w1.heap.size, 0, none⟩) [⟨#[122, 111, 101]⟩, ⟨#[]⟩, ⟨#[66, 111]⟩] _ (HC1.out.alloc _) (by omega) rfl (by decide) (by decide) (rd_texts (w := w1) [⟨#[122, 111, 101]⟩, ⟨#[]⟩, ⟨#[66, 111]⟩] 9) (fun g o q e => by have := HC1.out.lt; injection e with e; injection e with e; omega) (by decide)).mono ?_
    rintro e w2 ⟨vw2, k2, rfl, ⟨s2, rfl, hs2⟩, hk2, hc, hg⟩
    go_wp2
    go_ret
    exact ⟨_, k2, rfl, ⟨s2, rfl, hs2⟩, by omega, hc, grown_trans HG1.out (grown_trans (World.grownBy_alloc w1 _ _) hg)⟩
  | false =>
    go_wp2_with fail
    refine (CL.out k1 _ HC1.out (by omega)).mono ?_
    rintro e w2 ⟨vw2, k2, rfl, ⟨s2, rfl, hs2⟩, hk2, hc, hg⟩
    go_wp2
    go_ret
    exact ⟨_, k2, rfl, ⟨s2, rfl, hs2⟩, by omega, hc, grown_trans HG1.out hg⟩


set_option maxRecDepth 20000 in
set_option maxHeartbeats 8000000 in
theorem approval28_any (p k : Nat) (u : Cu) (id day : Int) (w : World) (h : CurB w p u k) (hk : k ≤ 700000) :
    Calls Tryd.prog 47 #[.pointer (some ⟨p, 0, none⟩), .int .i64 id, .int .i64 day] w (RetX p u k 60 w) := by
  have AM := Lib.hid (fun k n c A zs w h hk hz hn hn2 hA hf => among_any p k n c u A zs w h hk hz hn hn2 hA hf)
  have PK := Lib.hid (fun k m w h hk hm hm2 => pick_any p k m u w h hk hm hm2)
  have ON := Lib.hid (fun k m w h hk hm hm2 => one_any p k m u w h hk hm hm2)
  have OF := Lib.hid (fun k n c N A ts w h hk hz hn hn2 hA hf hN => of_any p k n c N u A ts w h hk hz hn hn2 hA hf hN)
  have CL := Lib.hid (fun k w h hk => client28_any p k u w h hk)
  have PU := Lib.hid (fun lo v l z w ho hlo h20 => l1Put_any lo v l z w ho hlo h20)
  have HC0 := Lib.hid (h.alloc (.cells #[.int .i64 0, .string ⟨#[]⟩, .int .i64 0, .slice none 0 0, .slice none 0 0, .int .i64 0] 34))
  have hp := h.lt
  have KR0 : Hid (Blk (w.alloc (.cells #[.int .i64 0, .string ⟨#[]⟩, .int .i64 0, .slice none 0 0, .slice none 0 0, .int .i64 0] 34)) w.heap.size [.int .i64 0, .string ⟨#[]⟩, .int .i64 0, .slice none 0 0, .slice none 0 0, .int .i64 0]) := Lib.hid (Blk.new w _ _)
  clear h
  go_enter Tryd.func47, Tryd.ntmps47
  go_wp2_with fail
  refine (CL.out k _ HC0.out (by omega)).mono ?_
  rintro e w1 ⟨v1, k1, rfl, ⟨s1, rfl, hs1⟩, hk1, hc, hg⟩
  have hw1 : w.heap.size + 1 ≤ w1.heap.size := by have := hg.size; simpa using this
  have HX1 : Hid (XRel w 3 p w.heap.size w1.heap.size u ⟨id, s1, day, [], [], -1⟩ (.slice none 0 0) (.slice none 0 0) k1 (w1.alloc (.cells #[.int .i64 id, .string s1, .int .i64 day, .slice none 0 0, .slice none 0 0, .int .i64 (-1)] 34))) := Lib.hid
    { cur := hc.alloc _
      gr := grown_alloc (grown_trans (World.grownBy_alloc w _ _) hg) _
      box := Blk.new w1 _ _
      res := (KR0.out.grown hg (fun e => by injection e with e; omega)).alloc _
      oa := World.ownsRow_nil _ _ _ _
      ob := World.ownsRow_nil _ _ _ _
      ne := fun q hq => by cases hq
      hp := hp
      hrr := Nat.le_refl _
      hrb := by omega }
  clear hc hg HC0 KR0
  go_wp2_with fail
  refine (PK.out k1 4 _ HX1.out.cur (by omega) (by decide) (by decide)).mono ?_
  rintro e w2 ⟨v2, k2, rfl, ⟨r2, rfl, a2, b2⟩, hk2, hc, hg⟩
  have HX2 := Lib.hid (HX1.out.call hc hg)
  obtain ⟨n2, hn2⟩ : ∃ n2 : Nat, r2 + 1 = n2 := ⟨(r2 + 1).toNat, by omega⟩
  have hwn2 : IntKind.i64.wrap (1 + r2) = (n2 : Int) := by rw [IntWalk.i64_in _ (by omega)]; omega
  have hn4 : n2 ≤ 4 := by omega
  clear hc hg HX1 a2 b2
  go_wp2_with fail
  go_loopw [8] (fun n wr => ∃ (j : Nat) (zs : List Int) (a : Value) (kk : Nat), n = .int .i64 j ∧ zs.length + j ≤ n2 ∧ kk + 2 * j ≤ k2 + 2 * n2 ∧ XRel w 3 p w.heap.size w1.heap.size u ⟨id, s1, day, zs, [], -1⟩ a (.slice none 0 0) kk wr) (fun n _ => (intOf n).toNat)
  case atStart => exact ⟨n2, [], .slice none 0 0, k2, rfl, by simp, by omega, HX2.out⟩
  case round =>
    obtain ⟨j, zs, a, kk, rfl, hzj, hkk, hX⟩ := hrel
    have HX := Lib.hid hX
    obtain ⟨Aa, ca, rfl⟩ := own_form hX.oa
    clear hX HX2
    by_cases hj0 : 0 < j
    · have hj0' : (0 : Int) < (j : Int) := by omega
      have e3 := HX.out.box.cell 3 _ rfl
      have f3 := HX.out.box.fr 3 (by simp [row6])
      have hbl := HX.out.box.lt
      go_wp2_with fail
      go_region_with (first
        | (go_at_call 40; refine (PK.out kk 9 _ (by first | exact (HX.out.below (Below.refl _ _).drew).cur | exact HX.out.cur) (by omega) (by decide) (by decide)).mono ?_; rintro e w3 ⟨v3, k3, rfl, ⟨r3, rfl, a3, b3⟩, hk3, hc, hg⟩; have HX3 := Lib.hid ((HX.out.below (Below.refl _ _).drew).call hc hg); have KE3 : w3.cell? ⟨w1.heap.size, 3, none⟩ = some (.slice Aa zs.length ca) := HX3.out.box.cell 3 _ rfl; have hl3 : w1.heap.size < w3.heap.size := HX3.out.box.lt; obtain ⟨z3, hz3⟩ : ∃ z3, IntKind.i64.wrap (1 + r3) = z3 := ⟨_, rfl⟩)
        | (go_at_call 30; refine (PU.out (w1.heap.size + 1) (.slice Aa zs.length ca) zs z3 w3 HX3.out.oa hl3 (by omega)).mono ?_; rintro e w4 ⟨v4, rfl, o4, b4⟩; obtain ⟨A4, c4, rfl⟩ := own_form o4; have KE4 : w4.cell? ⟨w1.heap.size, 3, none⟩ = some (.slice Aa zs.length ca) := (HX3.out.below b4).box.cell 3 _ rfl; have FE4 : w4.frozen? ⟨w1.heap.size, 3, none⟩ = false := (HX3.out.below b4).box.fr 3 (by simp [row6]); have hl4 : w1.heap.size < w4.heap.size := (HX3.out.below b4).box.lt))
      all_goals go_goals
      all_goals (
        have HX4 := Lib.hid (HX3.out.putA b4 o4 (fun q _ hq => by cases hq))
        have hpl := putV_len zs z3
        clear o4 b4 hc hg a3 b3 HX3 HX KE3 KE4 FE4
        go_wp2
        go_roundw
        case rel => exact ⟨j - 1, putV zs z3, _, k3, by go_num, by omega, by omega, HX4.out⟩
        case measure => simp [intOf]; omega)
    · have hj : j = 0 := by omega
      subst hj
      rw [show ((0 : Nat) : Int) = 0 from rfl]
      have hz4 : zs.length ≤ 4 := by omega
      go_wp2_with fail
      refine (ON.out kk 3 _ HX.out.cur (by omega) (by decide) (by decide)).mono ?_
      rintro e w3 ⟨v3, k3, rfl, ⟨b3, rfl⟩, hk3, hc, hg⟩
      have HX3 := Lib.hid (HX.out.call hc hg)
      clear hc hg HX
      cases b3 with
      | true =>
        have hkl : ([] : List Int).length ≤ 4 := by simp
        have e3 := HX3.out.box.cell 3 _ rfl
        go_wp2_with fail
        refine (PK.out k3 120 _ HX3.out.cur (by omega) (by decide) (by decide)).mono ?_
        rintro e w8 ⟨v8, k8, rfl, ⟨r8, rfl, a8, b8⟩, hk8, hc, hg⟩
        have HX8 := Lib.hid (HX3.out.call hc hg)
        clear hc hg HX3 e3
        obtain ⟨t8, rfl⟩ : ∃ t8 : Nat, r8 = t8 := ⟨r8.toNat, by omega⟩
        by_cases h0 : t8 = 0
        · subst h0
          go_wp2_with fail
          refine (AM.out k8 3 _ (some ⟨w8.heap.size, 0, none⟩) [0, 99, 100] _ (HX8.out.cur.alloc _) (by omega) rfl (by decide) (by decide) (rd_ints (w := w8) [0, 99, 100] 3) (fun g o q e => by have := HX8.out.cur.lt; injection e with e; injection e with e; omega)).mono ?_
          rintro e w9 ⟨v9, k9, rfl, ⟨z9, -, rfl⟩, hk9, hc, hg⟩
          have HX9 := Lib.hid ((HX8.out.below ((Below.refl _ _).alloc (Nat.le_refl _) _)).call hc hg)
          clear hc hg HX8
          have xs0 := HX9.out.box.cell 0 _ rfl
          have xf0 := HX9.out.box.fr 0 (by simp [row6])
          have HXA := Lib.hid (HX9.out.put (i := 0) (by omega) (v := .int .i64 z9) (y := ⟨z9, s1, day, zs, [], -1⟩) rfl rfl rfl)
          have fx := HXA.out.fin
          have x0 := HXA.out.box.cell 0 _ rfl
          have x1 := HXA.out.box.cell 1 _ rfl
          have x2 := HXA.out.box.cell 2 _ rfl
          have x3 := HXA.out.box.cell 3 _ rfl
          have x4 := HXA.out.box.cell 4 _ rfl
          have x5 := HXA.out.box.cell 5 _ rfl
          have y0 := HXA.out.res.cell 0 _ rfl
          have yf0 := HXA.out.res.fr 0 (by simp)
          have y1 := HXA.out.res.cell 1 _ rfl
          have yf1 := HXA.out.res.fr 1 (by simp)
          have y2 := HXA.out.res.cell 2 _ rfl
          have yf2 := HXA.out.res.fr 2 (by simp)
          have y3 := HXA.out.res.cell 3 _ rfl
          have yf3 := HXA.out.res.fr 3 (by simp)
          have y4 := HXA.out.res.cell 4 _ rfl
          have yf4 := HXA.out.res.fr 4 (by simp)
          have y5 := HXA.out.res.cell 5 _ rfl
          have yf5 := HXA.out.res.fr 5 (by simp)
          have hxl := HXA.out.box.lt
          have hyl := HXA.out.res.lt
          have hne1 : ¬ w.heap.size = w1.heap.size := by omega
          have hne2 : ¬ w1.heap.size = w.heap.size := by omega
          have FX := Lib.hid fx
          clear fx
          go_wp2
          obtain ⟨F1, F2, F3, F4⟩ := FX.out
          exact bodyPost_ret (v := .agg #[.int .i64 z9, .string s1, .int .i64 day, .slice Aa zs.length ca, (Value.slice none 0 0), .int .i64 (-1)]) (by simp [results, Tryd.results47, go_sem, y0, y1, y2, y3, y4, y5, hyl, hne1, hne2]) rfl ⟨⟨z9, s1, day, zs, [], (-1)⟩, _, _, _, rfl, F1, F2, ⟨by first | exact hs1 | assumption, by first | (dsimp only; omega) | (simp; done), by first | (dsimp only; omega) | (simp; done)⟩, by omega, F3, F4⟩
        · have d0 : ((t8 : Int) == 0) = false := by simp; omega
          have hn0 : ¬ ((t8 : Int) = 0) := by omega
          by_cases h1 : t8 = 1
          · subst h1
            go_wp2_with fail
            refine (OF.out k8 2 _ 10 (some ⟨w8.heap.size, 0, none⟩) [⟨#[]⟩, ⟨#[66, 111]⟩] _ (HX8.out.cur.alloc _) (by omega) rfl (by decide) (by decide) (rd_texts (w := w8) [⟨#[]⟩, ⟨#[66, 111]⟩] 9) (fun g o q e => by have := HX8.out.cur.lt; injection e with e; injection e with e; omega) (by decide)).mono ?_
            rintro e w9 ⟨v9, k9, rfl, ⟨s9, rfl, hs9⟩, hk9, hc, hg⟩
            have HX9 := Lib.hid ((HX8.out.below ((Below.refl _ _).alloc (Nat.le_refl _) _)).call hc hg)
            clear hc hg HX8
            have xs1 := HX9.out.box.cell 1 _ rfl
            have xf1 := HX9.out.box.fr 1 (by simp [row6])
            have HXA := Lib.hid (HX9.out.put (i := 1) (by omega) (v := .string s9) (y := ⟨id, s9, day, zs, [], -1⟩) rfl rfl rfl)
            have fx := HXA.out.fin
            have x0 := HXA.out.box.cell 0 _ rfl
            have x1 := HXA.out.box.cell 1 _ rfl
            have x2 := HXA.out.box.cell 2 _ rfl
            have x3 := HXA.out.box.cell 3 _ rfl
            have x4 := HXA.out.box.cell 4 _ rfl
            have x5 := HXA.out.box.cell 5 _ rfl
            have y0 := HXA.out.res.cell 0 _ rfl
            have yf0 := HXA.out.res.fr 0 (by simp)
            have y1 := HXA.out.res.cell 1 _ rfl
            have yf1 := HXA.out.res.fr 1 (by simp)
            have y2 := HXA.out.res.cell 2 _ rfl
            have yf2 := HXA.out.res.fr 2 (by simp)
            have y3 := HXA.out.res.cell 3 _ rfl
            have yf3 := HXA.out.res.fr 3 (by simp)
            have y4 := HXA.out.res.cell 4 _ rfl
            have yf4 := HXA.out.res.fr 4 (by simp)
            have y5 := HXA.out.res.cell 5 _ rfl
            have yf5 := HXA.out.res.fr 5 (by simp)
            have hxl := HXA.out.box.lt
            have hyl := HXA.out.res.lt
            have hne1 : ¬ w.heap.size = w1.heap.size := by omega
            have hne2 : ¬ w1.heap.size = w.heap.size := by omega
            have FX := Lib.hid fx
            clear fx
            go_wp2
            obtain ⟨F1, F2, F3, F4⟩ := FX.out
            exact bodyPost_ret (v := .agg #[.int .i64 id, .string s9, .int .i64 day, .slice Aa zs.length ca, (Value.slice none 0 0), .int .i64 (-1)]) (by simp [results, Tryd.results47, go_sem, y0, y1, y2, y3, y4, y5, hyl, hne1, hne2]) rfl ⟨⟨id, s9, day, zs, [], (-1)⟩, _, _, _, rfl, F1, F2, ⟨by first | exact hs1 | assumption, by first | (dsimp only; omega) | (simp; done), by first | (dsimp only; omega) | (simp; done)⟩, by omega, F3, F4⟩
          · have d1 : ((t8 : Int) == 1) = false := by simp; omega
            have hn1 : ¬ ((t8 : Int) = 1) := by omega
            by_cases h2 : t8 = 2
            · subst h2
              go_wp2_with fail
              refine (AM.out k8 2 _ (some ⟨w8.heap.size, 0, none⟩) [-1, 4001] _ (HX8.out.cur.alloc _) (by omega) rfl (by decide) (by decide) (rd_ints (w := w8) [-1, 4001] 3) (fun g o q e => by have := HX8.out.cur.lt; injection e with e; injection e with e; omega)).mono ?_
              rintro e w9 ⟨v9, k9, rfl, ⟨z9, -, rfl⟩, hk9, hc, hg⟩
              have HX9 := Lib.hid ((HX8.out.below ((Below.refl _ _).alloc (Nat.le_refl _) _)).call hc hg)
              clear hc hg HX8
              have xs2 := HX9.out.box.cell 2 _ rfl
              have xf2 := HX9.out.box.fr 2 (by simp [row6])
              have HXA := Lib.hid (HX9.out.put (i := 2) (by omega) (v := .int .i64 z9) (y := ⟨id, s1, z9, zs, [], -1⟩) rfl rfl rfl)
              have fx := HXA.out.fin
              have x0 := HXA.out.box.cell 0 _ rfl
              have x1 := HXA.out.box.cell 1 _ rfl
              have x2 := HXA.out.box.cell 2 _ rfl
              have x3 := HXA.out.box.cell 3 _ rfl
              have x4 := HXA.out.box.cell 4 _ rfl
              have x5 := HXA.out.box.cell 5 _ rfl
              have y0 := HXA.out.res.cell 0 _ rfl
              have yf0 := HXA.out.res.fr 0 (by simp)
              have y1 := HXA.out.res.cell 1 _ rfl
              have yf1 := HXA.out.res.fr 1 (by simp)
              have y2 := HXA.out.res.cell 2 _ rfl
              have yf2 := HXA.out.res.fr 2 (by simp)
              have y3 := HXA.out.res.cell 3 _ rfl
              have yf3 := HXA.out.res.fr 3 (by simp)
              have y4 := HXA.out.res.cell 4 _ rfl
              have yf4 := HXA.out.res.fr 4 (by simp)
              have y5 := HXA.out.res.cell 5 _ rfl
              have yf5 := HXA.out.res.fr 5 (by simp)
              have hxl := HXA.out.box.lt
              have hyl := HXA.out.res.lt
              have hne1 : ¬ w.heap.size = w1.heap.size := by omega
              have hne2 : ¬ w1.heap.size = w.heap.size := by omega
              have FX := Lib.hid fx
              clear fx
              go_wp2
              obtain ⟨F1, F2, F3, F4⟩ := FX.out
              exact bodyPost_ret (v := .agg #[.int .i64 id, .string s1, .int .i64 z9, .slice Aa zs.length ca, (Value.slice none 0 0), .int .i64 (-1)]) (by simp [results, Tryd.results47, go_sem, y0, y1, y2, y3, y4, y5, hyl, hne1, hne2]) rfl ⟨⟨id, s1, z9, zs, [], (-1)⟩, _, _, _, rfl, F1, F2, ⟨by first | exact hs1 | assumption, by first | (dsimp only; omega) | (simp; done), by first | (dsimp only; omega) | (simp; done)⟩, by omega, F3, F4⟩
            · have d2 : ((t8 : Int) == 2) = false := by simp; omega
              have hn2 : ¬ ((t8 : Int) = 2) := by omega
              by_cases h3 : t8 = 3
              · subst h3
                have HXA := Lib.hid (by have h := (HX8.out.putA (a' := .slice (some ⟨w8.heap.size, 0, none⟩) 0 0) (w1 := w8.alloc (.cells #[] 3)) (zs := []) ((Below.refl _ _).alloc (Nat.le_refl _) _) (own_empty w8 _ 3 1 (Nat.succ_le_of_lt HX8.out.box.lt)) (fun q h1 h2 => by simp [Value.ownBlock] at h1; have := (HX8.out.ob.lt q h2).2; omega)); rw [World.setCell_alloc_past _ _ _ _ HX8.out.box.lt] at h; exact h)
                have xs3 := HX8.out.box.cell 3 _ rfl
                have xf3 := HX8.out.box.fr 3 (by simp [row6])
                have xl3 := HX8.out.box.lt
                have yl3 := HX8.out.res.lt
                have fx := HXA.out.fin
                simp (disch := (simp <;> omega)) only [World.setCell_alloc_past] at fx
                have x0 := HX8.out.box.cell 0 _ rfl
                have x1 := HX8.out.box.cell 1 _ rfl
                have x2 := HX8.out.box.cell 2 _ rfl
                have x3 := HX8.out.box.cell 3 _ rfl
                have x4 := HX8.out.box.cell 4 _ rfl
                have x5 := HX8.out.box.cell 5 _ rfl
                have y0 := HX8.out.res.cell 0 _ rfl
                have yf0 := HX8.out.res.fr 0 (by simp)
                have y1 := HX8.out.res.cell 1 _ rfl
                have yf1 := HX8.out.res.fr 1 (by simp)
                have y2 := HX8.out.res.cell 2 _ rfl
                have yf2 := HX8.out.res.fr 2 (by simp)
                have y3 := HX8.out.res.cell 3 _ rfl
                have yf3 := HX8.out.res.fr 3 (by simp)
                have y4 := HX8.out.res.cell 4 _ rfl
                have yf4 := HX8.out.res.fr 4 (by simp)
                have y5 := HX8.out.res.cell 5 _ rfl
                have yf5 := HX8.out.res.fr 5 (by simp)
                have hxl := HX8.out.box.lt
                have hyl := HX8.out.res.lt
                have hne1 : ¬ w.heap.size = w1.heap.size := by omega
                have hne2 : ¬ w1.heap.size = w.heap.size := by omega
                have FX := Lib.hid fx
                clear fx
                go_wp2
                obtain ⟨F1, F2, F3, F4⟩ := FX.out
                exact bodyPost_ret (v := .agg #[.int .i64 id, .string s1, .int .i64 day, .slice (some ⟨w8.heap.size, 0, none⟩) 0 0, (Value.slice none 0 0), .int .i64 (-1)]) (by simp [results, Tryd.results47, go_sem, y0, y1, y2, y3, y4, y5, hyl, hne1, hne2]) rfl ⟨⟨id, s1, day, [], [], (-1)⟩, _, _, _, rfl, F1, F2, ⟨by first | exact hs1 | assumption, by first | (dsimp only; omega) | (simp; done), by first | (dsimp only; omega) | (simp; done)⟩, by omega, F3, F4⟩
              · have d3 : ((t8 : Int) == 3) = false := by simp; omega
                have hn3 : ¬ ((t8 : Int) = 3) := by omega
                by_cases h4 : t8 = 4
                · subst h4
                  go_wp2_with fail
                  refine (AM.out k8 3 _ (some ⟨w8.heap.size, 0, none⟩) [0, 10, 5] _ (HX8.out.cur.alloc _) (by omega) rfl (by decide) (by decide) (rd_ints (w := w8) [0, 10, 5] 3) (fun g o q e => by have := HX8.out.cur.lt; injection e with e; injection e with e; omega)).mono ?_
                  rintro e w9 ⟨v9, k9, rfl, ⟨z9, -, rfl⟩, hk9, hc, hg⟩
                  have HX9 := Lib.hid ((HX8.out.below ((Below.refl _ _).alloc (Nat.le_refl _) _)).call hc hg)
                  clear hc hg HX8
                  have HXA := Lib.hid (by have h := (HX9.out.putB (b' := .slice (some ⟨w9.heap.size, 0, none⟩) 1 1) (w1 := w9.alloc (.cells #[.int .i64 z9] 3)) (zs := [z9]) ((Below.refl _ _).alloc (Nat.le_refl _) _) (World.ownsRow_lit (e := 3) (base := w1.heap.size + 1) w9 #[.int .i64 z9] (size := 1) 1 (Nat.succ_le_of_lt HX9.out.box.lt) (by unfold maxLen; omega) rfl) (fun q h1 h2 => by simp [Value.ownBlock] at h2; have := (HX9.out.oa.lt q h1).2; omega)); rw [World.setCell_alloc_past _ _ _ _ HX9.out.box.lt] at h; exact h)
                  have xs4 := HX9.out.box.cell 4 _ rfl
                  have xf4 := HX9.out.box.fr 4 (by simp [row6])
                  have xl4 := HX9.out.box.lt
                  have yl4 := HX9.out.res.lt
                  have fx := HXA.out.fin
                  simp (disch := (simp <;> omega)) only [World.setCell_alloc_past] at fx
                  have x0 := HX9.out.box.cell 0 _ rfl
                  have x1 := HX9.out.box.cell 1 _ rfl
                  have x2 := HX9.out.box.cell 2 _ rfl
                  have x3 := HX9.out.box.cell 3 _ rfl
                  have x4 := HX9.out.box.cell 4 _ rfl
                  have x5 := HX9.out.box.cell 5 _ rfl
                  have y0 := HX9.out.res.cell 0 _ rfl
                  have yf0 := HX9.out.res.fr 0 (by simp)
                  have y1 := HX9.out.res.cell 1 _ rfl
                  have yf1 := HX9.out.res.fr 1 (by simp)
                  have y2 := HX9.out.res.cell 2 _ rfl
                  have yf2 := HX9.out.res.fr 2 (by simp)
                  have y3 := HX9.out.res.cell 3 _ rfl
                  have yf3 := HX9.out.res.fr 3 (by simp)
                  have y4 := HX9.out.res.cell 4 _ rfl
                  have yf4 := HX9.out.res.fr 4 (by simp)
                  have y5 := HX9.out.res.cell 5 _ rfl
                  have yf5 := HX9.out.res.fr 5 (by simp)
                  have hxl := HX9.out.box.lt
                  have hyl := HX9.out.res.lt
                  have hne1 : ¬ w.heap.size = w1.heap.size := by omega
                  have hne2 : ¬ w1.heap.size = w.heap.size := by omega
                  have FX := Lib.hid fx
                  clear fx
                  go_wp2
                  obtain ⟨F1, F2, F3, F4⟩ := FX.out
                  exact bodyPost_ret (v := .agg #[.int .i64 id, .string s1, .int .i64 day, .slice Aa zs.length ca, .slice (some ⟨w9.heap.size, 0, none⟩) 1 1, .int .i64 (-1)]) (by simp [results, Tryd.results47, go_sem, y0, y1, y2, y3, y4, y5, hyl, hne1, hne2]) rfl ⟨⟨id, s1, day, zs, [z9], (-1)⟩, _, _, _, rfl, F1, F2, ⟨by first | exact hs1 | assumption, by first | (dsimp only; omega) | (simp; done), by first | (dsimp only; omega) | (simp; done)⟩, by omega, F3, F4⟩
                · have d4 : ((t8 : Int) == 4) = false := by simp; omega
                  have hn4 : ¬ ((t8 : Int) = 4) := by omega
                  by_cases h5 : t8 = 5
                  · subst h5
                    obtain ⟨d8, hd8⟩ : ∃ d8, IntKind.i64.wrap (day - 1) = d8 := ⟨_, rfl⟩
                    go_wp2_with fail
                    refine (AM.out k8 3 _ (some ⟨w8.heap.size, 0, none⟩) [-2, d8, 4001] _ (HX8.out.cur.alloc _) (by omega) rfl (by decide) (by decide) (rd_ints (w := w8) [-2, d8, 4001] 3) (fun g o q e => by have := HX8.out.cur.lt; injection e with e; injection e with e; omega)).mono ?_
                    rintro e w9 ⟨v9, k9, rfl, ⟨z9, -, rfl⟩, hk9, hc, hg⟩
                    have HX9 := Lib.hid ((HX8.out.below ((Below.refl _ _).alloc (Nat.le_refl _) _)).call hc hg)
                    clear hc hg HX8
                    have xs5 := HX9.out.box.cell 5 _ rfl
                    have xf5 := HX9.out.box.fr 5 (by simp [row6])
                    have HXA := Lib.hid (HX9.out.put (i := 5) (by omega) (v := .int .i64 z9) (y := ⟨id, s1, day, zs, [], z9⟩) rfl rfl rfl)
                    have fx := HXA.out.fin
                    have x0 := HXA.out.box.cell 0 _ rfl
                    have x1 := HXA.out.box.cell 1 _ rfl
                    have x2 := HXA.out.box.cell 2 _ rfl
                    have x3 := HXA.out.box.cell 3 _ rfl
                    have x4 := HXA.out.box.cell 4 _ rfl
                    have x5 := HXA.out.box.cell 5 _ rfl
                    have y0 := HXA.out.res.cell 0 _ rfl
                    have yf0 := HXA.out.res.fr 0 (by simp)
                    have y1 := HXA.out.res.cell 1 _ rfl
                    have yf1 := HXA.out.res.fr 1 (by simp)
                    have y2 := HXA.out.res.cell 2 _ rfl
                    have yf2 := HXA.out.res.fr 2 (by simp)
                    have y3 := HXA.out.res.cell 3 _ rfl
                    have yf3 := HXA.out.res.fr 3 (by simp)
                    have y4 := HXA.out.res.cell 4 _ rfl
                    have yf4 := HXA.out.res.fr 4 (by simp)
                    have y5 := HXA.out.res.cell 5 _ rfl
                    have yf5 := HXA.out.res.fr 5 (by simp)
                    have hxl := HXA.out.box.lt
                    have hyl := HXA.out.res.lt
                    have hne1 : ¬ w.heap.size = w1.heap.size := by omega
                    have hne2 : ¬ w1.heap.size = w.heap.size := by omega
                    have FX := Lib.hid fx
                    clear fx
                    go_wp2
                    obtain ⟨F1, F2, F3, F4⟩ := FX.out
                    exact bodyPost_ret (v := .agg #[.int .i64 id, .string s1, .int .i64 day, .slice Aa zs.length ca, (Value.slice none 0 0), .int .i64 z9]) (by simp [results, Tryd.results47, go_sem, y0, y1, y2, y3, y4, y5, hyl, hne1, hne2]) rfl ⟨⟨id, s1, day, zs, [], z9⟩, _, _, _, rfl, F1, F2, ⟨by first | exact hs1 | assumption, by first | (dsimp only; omega) | (simp; done), by first | (dsimp only; omega) | (simp; done)⟩, by omega, F3, F4⟩
                  · have d5 : ((t8 : Int) == 5) = false := by simp; omega
                    have hn5 : ¬ ((t8 : Int) = 5) := by omega
                    by_cases h6 : t8 = 6
                    · subst h6
                      go_wp2_with fail
                      refine (PK.out k8 2 _ (HX8.out.cur.alloc _) (by omega) (by decide) (by decide)).mono ?_
                      rintro e w9 ⟨v9, k9, rfl, ⟨r9, rfl, a9, b9⟩, hk9, hc, hg⟩
                      have OL : w9.ownsRow (w1.heap.size + 1) 3 1 (.slice (some ⟨w8.heap.size, 0, none⟩) 9 9) 9 (cells1 [1, 2, 3, 4, 5, 6, 7, 8, 9]) := own_grown (World.ownsRow_lit (e := 3) (base := w1.heap.size + 1) w8 (cells1 [1, 2, 3, 4, 5, 6, 7, 8, 9]).toArray (size := 1) 9 (Nat.succ_le_of_lt HX8.out.box.lt) (by unfold maxLen; omega) rfl) hg (by omega)
                      have HX9 := Lib.hid ((HX8.out.below ((Below.refl _ _).alloc (Nat.le_refl _) _)).call hc hg)
                      have hapq : ∀ q, (Value.slice (some ⟨w8.heap.size, 0, none⟩) 9 9).ownBlock = some q → (Value.slice none 0 0).ownBlock = some q → False := fun q h1 h2 => by simp [Value.ownBlock] at h1; have := (HX8.out.ob.lt q h2).2; omega
                      obtain ⟨m9, hm9⟩ : ∃ m9 : Nat, 8 + r9 = m9 := ⟨(8 + r9).toNat, by omega⟩
                      have hwm9 : IntKind.i64.wrap (8 + r9) = (m9 : Int) := by rw [IntWalk.i64_in _ (by omega)]; omega
                      have hm98 : m9 ≤ 9 := by omega
                      have hm98' : (m9 : Int) ≤ 9 := by omega
                      have hm0' : (0 : Int) ≤ (m9 : Int) := by omega
                      have hml9 : ([1, 2, 3, 4, 5, 6, 7, 8, 9].take m9 : List Int).length = m9 := by rw [List.length_take]; simp only [List.length_cons, List.length_nil]; omega
                      have OC : w9.ownsRow (w1.heap.size + 1) 3 1 (.slice (some ⟨w8.heap.size, 0, none⟩) m9 9) ([1, 2, 3, 4, 5, 6, 7, 8, 9].take m9 : List Int).length (cells1 ([1, 2, 3, 4, 5, 6, 7, 8, 9].take m9)) := by rw [hml9, show cells1 ([1, 2, 3, 4, 5, 6, 7, 8, 9].take m9) = (cells1 [1, 2, 3, 4, 5, 6, 7, 8, 9]).take m9 by simp only [cells1, List.map_take]]; exact own_cut OL hm98 (by omega)
                      have HXA := Lib.hid (HX9.out.putA (a' := .slice (some ⟨w8.heap.size, 0, none⟩) m9 9) (Below.refl _ _) (zs := [1, 2, 3, 4, 5, 6, 7, 8, 9].take m9) OC (fun q h1 h2 => hapq q h1 h2))
                      have xs3 := HX9.out.box.cell 3 _ rfl
                      have xf3 := HX9.out.box.fr 3 (by simp [row6])
                      have xl3 := HX9.out.box.lt
                      have hm99 : ([1, 2, 3, 4, 5, 6, 7, 8, 9].take m9 : List Int).length ≤ 9 := by omega
                      clear hc hg HX8 OL OC hapq a9 b9 hm9
                      have fx := HXA.out.fin
                      have x0 := HXA.out.box.cell 0 _ rfl
                      have x1 := HXA.out.box.cell 1 _ rfl
                      have x2 := HXA.out.box.cell 2 _ rfl
                      have x3 := HXA.out.box.cell 3 _ rfl
                      have x4 := HXA.out.box.cell 4 _ rfl
                      have x5 := HXA.out.box.cell 5 _ rfl
                      have y0 := HXA.out.res.cell 0 _ rfl
                      have yf0 := HXA.out.res.fr 0 (by simp)
                      have y1 := HXA.out.res.cell 1 _ rfl
                      have yf1 := HXA.out.res.fr 1 (by simp)
                      have y2 := HXA.out.res.cell 2 _ rfl
                      have yf2 := HXA.out.res.fr 2 (by simp)
                      have y3 := HXA.out.res.cell 3 _ rfl
                      have yf3 := HXA.out.res.fr 3 (by simp)
                      have y4 := HXA.out.res.cell 4 _ rfl
                      have yf4 := HXA.out.res.fr 4 (by simp)
                      have y5 := HXA.out.res.cell 5 _ rfl
                      have yf5 := HXA.out.res.fr 5 (by simp)
                      have hxl := HXA.out.box.lt
                      have hyl := HXA.out.res.lt
                      have hne1 : ¬ w.heap.size = w1.heap.size := by omega
                      have hne2 : ¬ w1.heap.size = w.heap.size := by omega
                      have FX := Lib.hid fx
                      clear fx
                      go_wp2
                      obtain ⟨F1, F2, F3, F4⟩ := FX.out
                      exact bodyPost_ret (v := .agg #[.int .i64 id, .string s1, .int .i64 day, .slice (some ⟨w8.heap.size, 0, none⟩) m9 9, (Value.slice none 0 0), .int .i64 (-1)]) (by simp [results, Tryd.results47, go_sem, y0, y1, y2, y3, y4, y5, hyl, hne1, hne2]) rfl ⟨⟨id, s1, day, [1, 2, 3, 4, 5, 6, 7, 8, 9].take m9, [], (-1)⟩, _, _, _, rfl, F1, F2, ⟨by first | exact hs1 | assumption, by first | (dsimp only; omega) | (simp; done), by first | (dsimp only; omega) | (simp; done)⟩, by omega, F3, F4⟩
                    · have d6 : ((t8 : Int) == 6) = false := by simp; omega
                      have hn6 : ¬ ((t8 : Int) = 6) := by omega
                      have fx := HX8.out.fin
                      have x0 := HX8.out.box.cell 0 _ rfl
                      have x1 := HX8.out.box.cell 1 _ rfl
                      have x2 := HX8.out.box.cell 2 _ rfl
                      have x3 := HX8.out.box.cell 3 _ rfl
                      have x4 := HX8.out.box.cell 4 _ rfl
                      have x5 := HX8.out.box.cell 5 _ rfl
                      have y0 := HX8.out.res.cell 0 _ rfl
                      have yf0 := HX8.out.res.fr 0 (by simp)
                      have y1 := HX8.out.res.cell 1 _ rfl
                      have yf1 := HX8.out.res.fr 1 (by simp)
                      have y2 := HX8.out.res.cell 2 _ rfl
                      have yf2 := HX8.out.res.fr 2 (by simp)
                      have y3 := HX8.out.res.cell 3 _ rfl
                      have yf3 := HX8.out.res.fr 3 (by simp)
                      have y4 := HX8.out.res.cell 4 _ rfl
                      have yf4 := HX8.out.res.fr 4 (by simp)
                      have y5 := HX8.out.res.cell 5 _ rfl
                      have yf5 := HX8.out.res.fr 5 (by simp)
                      have hxl := HX8.out.box.lt
                      have hyl := HX8.out.res.lt
                      have hne1 : ¬ w.heap.size = w1.heap.size := by omega
                      have hne2 : ¬ w1.heap.size = w.heap.size := by omega
                      have FX := Lib.hid fx
                      clear fx
                      go_wp2
                      obtain ⟨F1, F2, F3, F4⟩ := FX.out
                      exact bodyPost_ret (v := .agg #[.int .i64 id, .string s1, .int .i64 day, .slice Aa zs.length ca, (Value.slice none 0 0), .int .i64 (-1)]) (by simp [results, Tryd.results47, go_sem, y0, y1, y2, y3, y4, y5, hyl, hne1, hne2]) rfl ⟨⟨id, s1, day, zs, [], (-1)⟩, _, _, _, rfl, F1, F2, ⟨by first | exact hs1 | assumption, by first | (dsimp only; omega) | (simp; done), by first | (dsimp only; omega) | (simp; done)⟩, by omega, F3, F4⟩
      | false =>
        go_wp2_with fail
        refine (AM.out k3 4 _ (some ⟨w3.heap.size, 0, none⟩) [0, 1, 10, 30] _ (HX3.out.cur.alloc _) (by omega) rfl (by decide) (by decide) (rd_ints (w := w3) [0, 1, 10, 30] 3) (fun g o q e => by have := HX3.out.cur.lt; injection e with e; injection e with e; omega)).mono ?_
        rintro e w4 ⟨v4, k4, rfl, ⟨z4, -, rfl⟩, hk4, hc, hg⟩
        have HX4 := Lib.hid ((HX3.out.below ((Below.refl _ _).alloc (Nat.le_refl _) _)).call hc hg)
        clear hc hg HX3
        have e5 := HX4.out.box.cell 5 _ rfl
        have f5 := HX4.out.box.fr 5 (by simp [row6])
        obtain ⟨bk, hbk⟩ : ∃ bk, IntKind.i64.wrap (day + z4) = bk := ⟨_, rfl⟩
        have HX5 := Lib.hid (HX4.out.put (i := 5) (by omega) (v := .int .i64 bk) (y := ⟨id, s1, day, zs, [], bk⟩) rfl rfl rfl)
        clear HX4
        go_wp2_with fail
        go_loopw [9] (fun i wr => ∃ (t : Nat) (ks : List Int) (b : Value) (kq : Nat), i = .int .i64 t ∧ t ≤ zs.length ∧ ks.length ≤ t ∧ kq ≤ k4 + 2 * t ∧ XRel w 3 p w.heap.size w1.heap.size u ⟨id, s1, day, zs, ks, bk⟩ (.slice Aa zs.length ca) b kq wr) (fun i _ => zs.length - (intOf i).toNat)
        case atStart => exact ⟨0, [], .slice none 0 0, k4, rfl, by omega, by simp, by omega, HX5.out⟩
        case round =>
          obtain ⟨t, ks, b, kq, rfl, ht, hks, hkq, hX⟩ := hrel
          have HX := Lib.hid hX
          obtain ⟨Ab, cb, rfl⟩ := own_form hX.ob
          clear hX HX5
          by_cases htl : t < zs.length
          · have htl' : (t : Int) < (zs.length : Int) := by omega
            have ht0 : (0 : Int) ≤ (t : Int) := by omega
            have e3 := HX.out.box.cell 3 _ rfl
            have hbl := HX.out.box.lt
            go_wp2_with fail
            refine (ON.out kq 3 _ HX.out.cur (by omega) (by decide) (by decide)).mono ?_
            rintro e w6 ⟨v6, k6, rfl, ⟨b6, rfl⟩, hk6, hc, hg⟩
            have HX6 := Lib.hid (HX.out.call hc hg)
            clear hc hg HX e3 hbl
            cases b6 with
            | false =>
              go_wp2
              go_roundw
              case rel => exact ⟨t + 1, ks, _, k6, by go_num, by omega, by omega, by omega, HX6.out⟩
              case measure => simp [intOf]; omega
            | true =>
              obtain ⟨z, hz⟩ : ∃ z, zs[t]? = some z := ⟨_, List.getElem?_eq_getElem htl⟩
              obtain ⟨gA, oA, eA, hgA, cA⟩ := (Rd.of_own HX6.out.oa).at1 hz
              subst eA
              have e3 := HX6.out.box.cell 3 _ rfl
              have e4 := HX6.out.box.cell 4 _ rfl
              have f4 := HX6.out.box.fr 4 (by simp [row6])
              have hbl := HX6.out.box.lt
              have OB : Hid (((w6.alloc (.cells #[.int .i64 z] 3)).drew).ownsRow (w1.heap.size + 1) 3 1 (.slice Ab ks.length cb) ks.length (cells1 ks)) := Lib.hid (HX6.out.ob.alloc _)
              have BB : Hid (Below w6.heap.size w6 ((w6.alloc (.cells #[.int .i64 z] 3)).drew)) := Lib.hid ((Below.refl _ _).alloc (Nat.le_refl _) _).drew
              have RX : Hid (Rd ((w6.alloc (.cells #[.int .i64 z] 3)).drew) (some ⟨w6.heap.size, 0, none⟩) [.int .i64 z]) := Lib.hid (rd_new #[.int .i64 z] 3 rfl)
              have hsz : w1.heap.size + 1 ≤ ((w6.alloc (.cells #[.int .i64 z] 3)).drew).heap.size := Nat.le_trans hbl (BB.out.size)
              clear hz
              go_wp2_with fail
              go_region_with (refine upon_of_wp (w := (w6.alloc (.cells #[.int .i64 z] 3)).drew) (wp_app _ (.tmp 48) (.tmp 54) 27 rfl (w1.heap.size + 1) 3 _ 1 8 Tryd.underlying27 infoI rfl (by omega) (.slice Ab ks.length cb) ks.length (cells1 ks) (by simp [Act.eval, Act.put]) (by with_reducible exact OB.out) (some ⟨w6.heap.size, 0, none⟩) 1 1 [.int .i64 z] (by simp [Act.eval, Act.put]) rfl (by with_reducible exact RX.out) (oneCell_ints [z]) (by unfold maxLen; omega) (by omega) hsz ?_) (by go_simp); intro v7 w7 o7 g7 d7; obtain ⟨A7, c7, rfl⟩ := own_form o7; have HXP := Lib.hid (HX6.out.push BB.out o7 g7 d7); have CE7 : w7.cell? ⟨w1.heap.size, 4, none⟩ = some (.slice Ab ks.length cb) := ((HX6.out.below BB.out).box.grown g7 (fun e => by have := (HX6.out.ob.lt _ e.symm).1; omega)).cell 4 _ rfl; have FE7 : w7.frozen? ⟨w1.heap.size, 4, none⟩ = false := ((HX6.out.below BB.out).box.grown g7 (fun e => by have := (HX6.out.ob.lt _ e.symm).1; omega)).fr 4 (by simp [row6]))
              all_goals go_goals
              all_goals (
                clear o7 g7 d7 HX6 OB BB RX CE7 FE7
                go_wp2
                go_roundw
                case rel => exact ⟨t + 1, ks ++ [z], _, k6, by go_num, by omega, by simp; omega, by omega, HXP.out⟩
                case measure => simp [intOf]; omega)
          · have ht' : t = zs.length := by omega
            subst ht'
            have hkl : (ks : List Int).length ≤ 4 := by omega
            have e3 := HX.out.box.cell 3 _ rfl
            go_wp2_with fail
            refine (PK.out kq 120 _ HX.out.cur (by omega) (by decide) (by decide)).mono ?_
            rintro e w8 ⟨v8, k8, rfl, ⟨r8, rfl, a8, b8⟩, hk8, hc, hg⟩
            have HX8 := Lib.hid (HX.out.call hc hg)
            clear hc hg HX e3
            obtain ⟨t8, rfl⟩ : ∃ t8 : Nat, r8 = t8 := ⟨r8.toNat, by omega⟩
            by_cases h0 : t8 = 0
            · subst h0
              go_wp2_with fail
              refine (AM.out k8 3 _ (some ⟨w8.heap.size, 0, none⟩) [0, 99, 100] _ (HX8.out.cur.alloc _) (by omega) rfl (by decide) (by decide) (rd_ints (w := w8) [0, 99, 100] 3) (fun g o q e => by have := HX8.out.cur.lt; injection e with e; injection e with e; omega)).mono ?_
              rintro e w9 ⟨v9, k9, rfl, ⟨z9, -, rfl⟩, hk9, hc, hg⟩
              have HX9 := Lib.hid ((HX8.out.below ((Below.refl _ _).alloc (Nat.le_refl _) _)).call hc hg)
              clear hc hg HX8
              have xs0 := HX9.out.box.cell 0 _ rfl
              have xf0 := HX9.out.box.fr 0 (by simp [row6])
              have HXA := Lib.hid (HX9.out.put (i := 0) (by omega) (v := .int .i64 z9) (y := ⟨z9, s1, day, zs, ks, bk⟩) rfl rfl rfl)
              have fx := HXA.out.fin
              have x0 := HXA.out.box.cell 0 _ rfl
              have x1 := HXA.out.box.cell 1 _ rfl
              have x2 := HXA.out.box.cell 2 _ rfl
              have x3 := HXA.out.box.cell 3 _ rfl
              have x4 := HXA.out.box.cell 4 _ rfl
              have x5 := HXA.out.box.cell 5 _ rfl
              have y0 := HXA.out.res.cell 0 _ rfl
              have yf0 := HXA.out.res.fr 0 (by simp)
              have y1 := HXA.out.res.cell 1 _ rfl
              have yf1 := HXA.out.res.fr 1 (by simp)
              have y2 := HXA.out.res.cell 2 _ rfl
              have yf2 := HXA.out.res.fr 2 (by simp)
              have y3 := HXA.out.res.cell 3 _ rfl
              have yf3 := HXA.out.res.fr 3 (by simp)
              have y4 := HXA.out.res.cell 4 _ rfl
              have yf4 := HXA.out.res.fr 4 (by simp)
              have y5 := HXA.out.res.cell 5 _ rfl
              have yf5 := HXA.out.res.fr 5 (by simp)
              have hxl := HXA.out.box.lt
              have hyl := HXA.out.res.lt
              have hne1 : ¬ w.heap.size = w1.heap.size := by omega
              have hne2 : ¬ w1.heap.size = w.heap.size := by omega
              have FX := Lib.hid fx
              clear fx
              go_wp2
              obtain ⟨F1, F2, F3, F4⟩ := FX.out
              exact bodyPost_ret (v := .agg #[.int .i64 z9, .string s1, .int .i64 day, .slice Aa zs.length ca, (Value.slice Ab ks.length cb), .int .i64 (bk)]) (by simp [results, Tryd.results47, go_sem, y0, y1, y2, y3, y4, y5, hyl, hne1, hne2]) rfl ⟨⟨z9, s1, day, zs, ks, (bk)⟩, _, _, _, rfl, F1, F2, ⟨by first | exact hs1 | assumption, by first | (dsimp only; omega) | (simp; done), by first | (dsimp only; omega) | (simp; done)⟩, by omega, F3, F4⟩
            · have d0 : ((t8 : Int) == 0) = false := by simp; omega
              have hn0 : ¬ ((t8 : Int) = 0) := by omega
              by_cases h1 : t8 = 1
              · subst h1
                go_wp2_with fail
                refine (OF.out k8 2 _ 10 (some ⟨w8.heap.size, 0, none⟩) [⟨#[]⟩, ⟨#[66, 111]⟩] _ (HX8.out.cur.alloc _) (by omega) rfl (by decide) (by decide) (rd_texts (w := w8) [⟨#[]⟩, ⟨#[66, 111]⟩] 9) (fun g o q e => by have := HX8.out.cur.lt; injection e with e; injection e with e; omega) (by decide)).mono ?_
                rintro e w9 ⟨v9, k9, rfl, ⟨s9, rfl, hs9⟩, hk9, hc, hg⟩
                have HX9 := Lib.hid ((HX8.out.below ((Below.refl _ _).alloc (Nat.le_refl _) _)).call hc hg)
                clear hc hg HX8
                have xs1 := HX9.out.box.cell 1 _ rfl
                have xf1 := HX9.out.box.fr 1 (by simp [row6])
                have HXA := Lib.hid (HX9.out.put (i := 1) (by omega) (v := .string s9) (y := ⟨id, s9, day, zs, ks, bk⟩) rfl rfl rfl)
                have fx := HXA.out.fin
                have x0 := HXA.out.box.cell 0 _ rfl
                have x1 := HXA.out.box.cell 1 _ rfl
                have x2 := HXA.out.box.cell 2 _ rfl
                have x3 := HXA.out.box.cell 3 _ rfl
                have x4 := HXA.out.box.cell 4 _ rfl
                have x5 := HXA.out.box.cell 5 _ rfl
                have y0 := HXA.out.res.cell 0 _ rfl
                have yf0 := HXA.out.res.fr 0 (by simp)
                have y1 := HXA.out.res.cell 1 _ rfl
                have yf1 := HXA.out.res.fr 1 (by simp)
                have y2 := HXA.out.res.cell 2 _ rfl
                have yf2 := HXA.out.res.fr 2 (by simp)
                have y3 := HXA.out.res.cell 3 _ rfl
                have yf3 := HXA.out.res.fr 3 (by simp)
                have y4 := HXA.out.res.cell 4 _ rfl
                have yf4 := HXA.out.res.fr 4 (by simp)
                have y5 := HXA.out.res.cell 5 _ rfl
                have yf5 := HXA.out.res.fr 5 (by simp)
                have hxl := HXA.out.box.lt
                have hyl := HXA.out.res.lt
                have hne1 : ¬ w.heap.size = w1.heap.size := by omega
                have hne2 : ¬ w1.heap.size = w.heap.size := by omega
                have FX := Lib.hid fx
                clear fx
                go_wp2
                obtain ⟨F1, F2, F3, F4⟩ := FX.out
                exact bodyPost_ret (v := .agg #[.int .i64 id, .string s9, .int .i64 day, .slice Aa zs.length ca, (Value.slice Ab ks.length cb), .int .i64 (bk)]) (by simp [results, Tryd.results47, go_sem, y0, y1, y2, y3, y4, y5, hyl, hne1, hne2]) rfl ⟨⟨id, s9, day, zs, ks, (bk)⟩, _, _, _, rfl, F1, F2, ⟨by first | exact hs1 | assumption, by first | (dsimp only; omega) | (simp; done), by first | (dsimp only; omega) | (simp; done)⟩, by omega, F3, F4⟩
              · have d1 : ((t8 : Int) == 1) = false := by simp; omega
                have hn1 : ¬ ((t8 : Int) = 1) := by omega
                by_cases h2 : t8 = 2
                · subst h2
                  go_wp2_with fail
                  refine (AM.out k8 2 _ (some ⟨w8.heap.size, 0, none⟩) [-1, 4001] _ (HX8.out.cur.alloc _) (by omega) rfl (by decide) (by decide) (rd_ints (w := w8) [-1, 4001] 3) (fun g o q e => by have := HX8.out.cur.lt; injection e with e; injection e with e; omega)).mono ?_
                  rintro e w9 ⟨v9, k9, rfl, ⟨z9, -, rfl⟩, hk9, hc, hg⟩
                  have HX9 := Lib.hid ((HX8.out.below ((Below.refl _ _).alloc (Nat.le_refl _) _)).call hc hg)
                  clear hc hg HX8
                  have xs2 := HX9.out.box.cell 2 _ rfl
                  have xf2 := HX9.out.box.fr 2 (by simp [row6])
                  have HXA := Lib.hid (HX9.out.put (i := 2) (by omega) (v := .int .i64 z9) (y := ⟨id, s1, z9, zs, ks, bk⟩) rfl rfl rfl)
                  have fx := HXA.out.fin
                  have x0 := HXA.out.box.cell 0 _ rfl
                  have x1 := HXA.out.box.cell 1 _ rfl
                  have x2 := HXA.out.box.cell 2 _ rfl
                  have x3 := HXA.out.box.cell 3 _ rfl
                  have x4 := HXA.out.box.cell 4 _ rfl
                  have x5 := HXA.out.box.cell 5 _ rfl
                  have y0 := HXA.out.res.cell 0 _ rfl
                  have yf0 := HXA.out.res.fr 0 (by simp)
                  have y1 := HXA.out.res.cell 1 _ rfl
                  have yf1 := HXA.out.res.fr 1 (by simp)
                  have y2 := HXA.out.res.cell 2 _ rfl
                  have yf2 := HXA.out.res.fr 2 (by simp)
                  have y3 := HXA.out.res.cell 3 _ rfl
                  have yf3 := HXA.out.res.fr 3 (by simp)
                  have y4 := HXA.out.res.cell 4 _ rfl
                  have yf4 := HXA.out.res.fr 4 (by simp)
                  have y5 := HXA.out.res.cell 5 _ rfl
                  have yf5 := HXA.out.res.fr 5 (by simp)
                  have hxl := HXA.out.box.lt
                  have hyl := HXA.out.res.lt
                  have hne1 : ¬ w.heap.size = w1.heap.size := by omega
                  have hne2 : ¬ w1.heap.size = w.heap.size := by omega
                  have FX := Lib.hid fx
                  clear fx
                  go_wp2
                  obtain ⟨F1, F2, F3, F4⟩ := FX.out
                  exact bodyPost_ret (v := .agg #[.int .i64 id, .string s1, .int .i64 z9, .slice Aa zs.length ca, (Value.slice Ab ks.length cb), .int .i64 (bk)]) (by simp [results, Tryd.results47, go_sem, y0, y1, y2, y3, y4, y5, hyl, hne1, hne2]) rfl ⟨⟨id, s1, z9, zs, ks, (bk)⟩, _, _, _, rfl, F1, F2, ⟨by first | exact hs1 | assumption, by first | (dsimp only; omega) | (simp; done), by first | (dsimp only; omega) | (simp; done)⟩, by omega, F3, F4⟩
                · have d2 : ((t8 : Int) == 2) = false := by simp; omega
                  have hn2 : ¬ ((t8 : Int) = 2) := by omega
                  by_cases h3 : t8 = 3
                  · subst h3
                    have HXA := Lib.hid (by have h := (HX8.out.putA (a' := .slice (some ⟨w8.heap.size, 0, none⟩) 0 0) (w1 := w8.alloc (.cells #[] 3)) (zs := []) ((Below.refl _ _).alloc (Nat.le_refl _) _) (own_empty w8 _ 3 1 (Nat.succ_le_of_lt HX8.out.box.lt)) (fun q h1 h2 => by simp [Value.ownBlock] at h1; have := (HX8.out.ob.lt q h2).2; omega)); rw [World.setCell_alloc_past _ _ _ _ HX8.out.box.lt] at h; exact h)
                    have xs3 := HX8.out.box.cell 3 _ rfl
                    have xf3 := HX8.out.box.fr 3 (by simp [row6])
                    have xl3 := HX8.out.box.lt
                    have yl3 := HX8.out.res.lt
                    have fx := HXA.out.fin
                    simp (disch := (simp <;> omega)) only [World.setCell_alloc_past] at fx
                    have x0 := HX8.out.box.cell 0 _ rfl
                    have x1 := HX8.out.box.cell 1 _ rfl
                    have x2 := HX8.out.box.cell 2 _ rfl
                    have x3 := HX8.out.box.cell 3 _ rfl
                    have x4 := HX8.out.box.cell 4 _ rfl
                    have x5 := HX8.out.box.cell 5 _ rfl
                    have y0 := HX8.out.res.cell 0 _ rfl
                    have yf0 := HX8.out.res.fr 0 (by simp)
                    have y1 := HX8.out.res.cell 1 _ rfl
                    have yf1 := HX8.out.res.fr 1 (by simp)
                    have y2 := HX8.out.res.cell 2 _ rfl
                    have yf2 := HX8.out.res.fr 2 (by simp)
                    have y3 := HX8.out.res.cell 3 _ rfl
                    have yf3 := HX8.out.res.fr 3 (by simp)
                    have y4 := HX8.out.res.cell 4 _ rfl
                    have yf4 := HX8.out.res.fr 4 (by simp)
                    have y5 := HX8.out.res.cell 5 _ rfl
                    have yf5 := HX8.out.res.fr 5 (by simp)
                    have hxl := HX8.out.box.lt
                    have hyl := HX8.out.res.lt
                    have hne1 : ¬ w.heap.size = w1.heap.size := by omega
                    have hne2 : ¬ w1.heap.size = w.heap.size := by omega
                    have FX := Lib.hid fx
                    clear fx
                    go_wp2
                    obtain ⟨F1, F2, F3, F4⟩ := FX.out
                    exact bodyPost_ret (v := .agg #[.int .i64 id, .string s1, .int .i64 day, .slice (some ⟨w8.heap.size, 0, none⟩) 0 0, (Value.slice Ab ks.length cb), .int .i64 (bk)]) (by simp [results, Tryd.results47, go_sem, y0, y1, y2, y3, y4, y5, hyl, hne1, hne2]) rfl ⟨⟨id, s1, day, [], ks, (bk)⟩, _, _, _, rfl, F1, F2, ⟨by first | exact hs1 | assumption, by first | (dsimp only; omega) | (simp; done), by first | (dsimp only; omega) | (simp; done)⟩, by omega, F3, F4⟩
                  · have d3 : ((t8 : Int) == 3) = false := by simp; omega
                    have hn3 : ¬ ((t8 : Int) = 3) := by omega
                    by_cases h4 : t8 = 4
                    · subst h4
                      go_wp2_with fail
                      refine (AM.out k8 3 _ (some ⟨w8.heap.size, 0, none⟩) [0, 10, 5] _ (HX8.out.cur.alloc _) (by omega) rfl (by decide) (by decide) (rd_ints (w := w8) [0, 10, 5] 3) (fun g o q e => by have := HX8.out.cur.lt; injection e with e; injection e with e; omega)).mono ?_
                      rintro e w9 ⟨v9, k9, rfl, ⟨z9, -, rfl⟩, hk9, hc, hg⟩
                      have HX9 := Lib.hid ((HX8.out.below ((Below.refl _ _).alloc (Nat.le_refl _) _)).call hc hg)
                      clear hc hg HX8
                      have HXA := Lib.hid (by have h := (HX9.out.putB (b' := .slice (some ⟨w9.heap.size, 0, none⟩) 1 1) (w1 := w9.alloc (.cells #[.int .i64 z9] 3)) (zs := [z9]) ((Below.refl _ _).alloc (Nat.le_refl _) _) (World.ownsRow_lit (e := 3) (base := w1.heap.size + 1) w9 #[.int .i64 z9] (size := 1) 1 (Nat.succ_le_of_lt HX9.out.box.lt) (by unfold maxLen; omega) rfl) (fun q h1 h2 => by simp [Value.ownBlock] at h2; have := (HX9.out.oa.lt q h1).2; omega)); rw [World.setCell_alloc_past _ _ _ _ HX9.out.box.lt] at h; exact h)
                      have xs4 := HX9.out.box.cell 4 _ rfl
                      have xf4 := HX9.out.box.fr 4 (by simp [row6])
                      have xl4 := HX9.out.box.lt
                      have yl4 := HX9.out.res.lt
                      have fx := HXA.out.fin
                      simp (disch := (simp <;> omega)) only [World.setCell_alloc_past] at fx
                      have x0 := HX9.out.box.cell 0 _ rfl
                      have x1 := HX9.out.box.cell 1 _ rfl
                      have x2 := HX9.out.box.cell 2 _ rfl
                      have x3 := HX9.out.box.cell 3 _ rfl
                      have x4 := HX9.out.box.cell 4 _ rfl
                      have x5 := HX9.out.box.cell 5 _ rfl
                      have y0 := HX9.out.res.cell 0 _ rfl
                      have yf0 := HX9.out.res.fr 0 (by simp)
                      have y1 := HX9.out.res.cell 1 _ rfl
                      have yf1 := HX9.out.res.fr 1 (by simp)
                      have y2 := HX9.out.res.cell 2 _ rfl
                      have yf2 := HX9.out.res.fr 2 (by simp)
                      have y3 := HX9.out.res.cell 3 _ rfl
                      have yf3 := HX9.out.res.fr 3 (by simp)
                      have y4 := HX9.out.res.cell 4 _ rfl
                      have yf4 := HX9.out.res.fr 4 (by simp)
                      have y5 := HX9.out.res.cell 5 _ rfl
                      have yf5 := HX9.out.res.fr 5 (by simp)
                      have hxl := HX9.out.box.lt
                      have hyl := HX9.out.res.lt
                      have hne1 : ¬ w.heap.size = w1.heap.size := by omega
                      have hne2 : ¬ w1.heap.size = w.heap.size := by omega
                      have FX := Lib.hid fx
                      clear fx
                      go_wp2
                      obtain ⟨F1, F2, F3, F4⟩ := FX.out
                      exact bodyPost_ret (v := .agg #[.int .i64 id, .string s1, .int .i64 day, .slice Aa zs.length ca, .slice (some ⟨w9.heap.size, 0, none⟩) 1 1, .int .i64 (bk)]) (by simp [results, Tryd.results47, go_sem, y0, y1, y2, y3, y4, y5, hyl, hne1, hne2]) rfl ⟨⟨id, s1, day, zs, [z9], (bk)⟩, _, _, _, rfl, F1, F2, ⟨by first | exact hs1 | assumption, by first | (dsimp only; omega) | (simp; done), by first | (dsimp only; omega) | (simp; done)⟩, by omega, F3, F4⟩
                    · have d4 : ((t8 : Int) == 4) = false := by simp; omega
                      have hn4 : ¬ ((t8 : Int) = 4) := by omega
                      by_cases h5 : t8 = 5
                      · subst h5
                        obtain ⟨d8, hd8⟩ : ∃ d8, IntKind.i64.wrap (day - 1) = d8 := ⟨_, rfl⟩
                        go_wp2_with fail
                        refine (AM.out k8 3 _ (some ⟨w8.heap.size, 0, none⟩) [-2, d8, 4001] _ (HX8.out.cur.alloc _) (by omega) rfl (by decide) (by decide) (rd_ints (w := w8) [-2, d8, 4001] 3) (fun g o q e => by have := HX8.out.cur.lt; injection e with e; injection e with e; omega)).mono ?_
                        rintro e w9 ⟨v9, k9, rfl, ⟨z9, -, rfl⟩, hk9, hc, hg⟩
                        have HX9 := Lib.hid ((HX8.out.below ((Below.refl _ _).alloc (Nat.le_refl _) _)).call hc hg)
                        clear hc hg HX8
                        have xs5 := HX9.out.box.cell 5 _ rfl
                        have xf5 := HX9.out.box.fr 5 (by simp [row6])
                        have HXA := Lib.hid (HX9.out.put (i := 5) (by omega) (v := .int .i64 z9) (y := ⟨id, s1, day, zs, ks, z9⟩) rfl rfl rfl)
                        have fx := HXA.out.fin
                        have x0 := HXA.out.box.cell 0 _ rfl
                        have x1 := HXA.out.box.cell 1 _ rfl
                        have x2 := HXA.out.box.cell 2 _ rfl
                        have x3 := HXA.out.box.cell 3 _ rfl
                        have x4 := HXA.out.box.cell 4 _ rfl
                        have x5 := HXA.out.box.cell 5 _ rfl
                        have y0 := HXA.out.res.cell 0 _ rfl
                        have yf0 := HXA.out.res.fr 0 (by simp)
                        have y1 := HXA.out.res.cell 1 _ rfl
                        have yf1 := HXA.out.res.fr 1 (by simp)
                        have y2 := HXA.out.res.cell 2 _ rfl
                        have yf2 := HXA.out.res.fr 2 (by simp)
                        have y3 := HXA.out.res.cell 3 _ rfl
                        have yf3 := HXA.out.res.fr 3 (by simp)
                        have y4 := HXA.out.res.cell 4 _ rfl
                        have yf4 := HXA.out.res.fr 4 (by simp)
                        have y5 := HXA.out.res.cell 5 _ rfl
                        have yf5 := HXA.out.res.fr 5 (by simp)
                        have hxl := HXA.out.box.lt
                        have hyl := HXA.out.res.lt
                        have hne1 : ¬ w.heap.size = w1.heap.size := by omega
                        have hne2 : ¬ w1.heap.size = w.heap.size := by omega
                        have FX := Lib.hid fx
                        clear fx
                        go_wp2
                        obtain ⟨F1, F2, F3, F4⟩ := FX.out
                        exact bodyPost_ret (v := .agg #[.int .i64 id, .string s1, .int .i64 day, .slice Aa zs.length ca, (Value.slice Ab ks.length cb), .int .i64 z9]) (by simp [results, Tryd.results47, go_sem, y0, y1, y2, y3, y4, y5, hyl, hne1, hne2]) rfl ⟨⟨id, s1, day, zs, ks, z9⟩, _, _, _, rfl, F1, F2, ⟨by first | exact hs1 | assumption, by first | (dsimp only; omega) | (simp; done), by first | (dsimp only; omega) | (simp; done)⟩, by omega, F3, F4⟩
                      · have d5 : ((t8 : Int) == 5) = false := by simp; omega
                        have hn5 : ¬ ((t8 : Int) = 5) := by omega
                        by_cases h6 : t8 = 6
                        · subst h6
                          go_wp2_with fail
                          refine (PK.out k8 2 _ (HX8.out.cur.alloc _) (by omega) (by decide) (by decide)).mono ?_
                          rintro e w9 ⟨v9, k9, rfl, ⟨r9, rfl, a9, b9⟩, hk9, hc, hg⟩
                          have OL : w9.ownsRow (w1.heap.size + 1) 3 1 (.slice (some ⟨w8.heap.size, 0, none⟩) 9 9) 9 (cells1 [1, 2, 3, 4, 5, 6, 7, 8, 9]) := own_grown (World.ownsRow_lit (e := 3) (base := w1.heap.size + 1) w8 (cells1 [1, 2, 3, 4, 5, 6, 7, 8, 9]).toArray (size := 1) 9 (Nat.succ_le_of_lt HX8.out.box.lt) (by unfold maxLen; omega) rfl) hg (by omega)
                          have HX9 := Lib.hid ((HX8.out.below ((Below.refl _ _).alloc (Nat.le_refl _) _)).call hc hg)
                          have hapq : ∀ q, (Value.slice (some ⟨w8.heap.size, 0, none⟩) 9 9).ownBlock = some q → (Value.slice Ab ks.length cb).ownBlock = some q → False := fun q h1 h2 => by simp [Value.ownBlock] at h1; have := (HX8.out.ob.lt q h2).2; omega
                          obtain ⟨m9, hm9⟩ : ∃ m9 : Nat, 8 + r9 = m9 := ⟨(8 + r9).toNat, by omega⟩
                          have hwm9 : IntKind.i64.wrap (8 + r9) = (m9 : Int) := by rw [IntWalk.i64_in _ (by omega)]; omega
                          have hm98 : m9 ≤ 9 := by omega
                          have hm98' : (m9 : Int) ≤ 9 := by omega
                          have hm0' : (0 : Int) ≤ (m9 : Int) := by omega
                          have hml9 : ([1, 2, 3, 4, 5, 6, 7, 8, 9].take m9 : List Int).length = m9 := by rw [List.length_take]; simp only [List.length_cons, List.length_nil]; omega
                          have OC : w9.ownsRow (w1.heap.size + 1) 3 1 (.slice (some ⟨w8.heap.size, 0, none⟩) m9 9) ([1, 2, 3, 4, 5, 6, 7, 8, 9].take m9 : List Int).length (cells1 ([1, 2, 3, 4, 5, 6, 7, 8, 9].take m9)) := by rw [hml9, show cells1 ([1, 2, 3, 4, 5, 6, 7, 8, 9].take m9) = (cells1 [1, 2, 3, 4, 5, 6, 7, 8, 9]).take m9 by simp only [cells1, List.map_take]]; exact own_cut OL hm98 (by omega)
                          have HXA := Lib.hid (HX9.out.putA (a' := .slice (some ⟨w8.heap.size, 0, none⟩) m9 9) (Below.refl _ _) (zs := [1, 2, 3, 4, 5, 6, 7, 8, 9].take m9) OC (fun q h1 h2 => hapq q h1 h2))
                          have xs3 := HX9.out.box.cell 3 _ rfl
                          have xf3 := HX9.out.box.fr 3 (by simp [row6])
                          have xl3 := HX9.out.box.lt
                          have hm99 : ([1, 2, 3, 4, 5, 6, 7, 8, 9].take m9 : List Int).length ≤ 9 := by omega
                          clear hc hg HX8 OL OC hapq a9 b9 hm9
                          have fx := HXA.out.fin
                          have x0 := HXA.out.box.cell 0 _ rfl
                          have x1 := HXA.out.box.cell 1 _ rfl
                          have x2 := HXA.out.box.cell 2 _ rfl
                          have x3 := HXA.out.box.cell 3 _ rfl
                          have x4 := HXA.out.box.cell 4 _ rfl
                          have x5 := HXA.out.box.cell 5 _ rfl
                          have y0 := HXA.out.res.cell 0 _ rfl
                          have yf0 := HXA.out.res.fr 0 (by simp)
                          have y1 := HXA.out.res.cell 1 _ rfl
                          have yf1 := HXA.out.res.fr 1 (by simp)
                          have y2 := HXA.out.res.cell 2 _ rfl
                          have yf2 := HXA.out.res.fr 2 (by simp)
                          have y3 := HXA.out.res.cell 3 _ rfl
                          have yf3 := HXA.out.res.fr 3 (by simp)
                          have y4 := HXA.out.res.cell 4 _ rfl
                          have yf4 := HXA.out.res.fr 4 (by simp)
                          have y5 := HXA.out.res.cell 5 _ rfl
                          have yf5 := HXA.out.res.fr 5 (by simp)
                          have hxl := HXA.out.box.lt
                          have hyl := HXA.out.res.lt
                          have hne1 : ¬ w.heap.size = w1.heap.size := by omega
                          have hne2 : ¬ w1.heap.size = w.heap.size := by omega
                          have FX := Lib.hid fx
                          clear fx
                          go_wp2
                          obtain ⟨F1, F2, F3, F4⟩ := FX.out
                          exact bodyPost_ret (v := .agg #[.int .i64 id, .string s1, .int .i64 day, .slice (some ⟨w8.heap.size, 0, none⟩) m9 9, (Value.slice Ab ks.length cb), .int .i64 (bk)]) (by simp [results, Tryd.results47, go_sem, y0, y1, y2, y3, y4, y5, hyl, hne1, hne2]) rfl ⟨⟨id, s1, day, [1, 2, 3, 4, 5, 6, 7, 8, 9].take m9, ks, (bk)⟩, _, _, _, rfl, F1, F2, ⟨by first | exact hs1 | assumption, by first | (dsimp only; omega) | (simp; done), by first | (dsimp only; omega) | (simp; done)⟩, by omega, F3, F4⟩
                        · have d6 : ((t8 : Int) == 6) = false := by simp; omega
                          have hn6 : ¬ ((t8 : Int) = 6) := by omega
                          have fx := HX8.out.fin
                          have x0 := HX8.out.box.cell 0 _ rfl
                          have x1 := HX8.out.box.cell 1 _ rfl
                          have x2 := HX8.out.box.cell 2 _ rfl
                          have x3 := HX8.out.box.cell 3 _ rfl
                          have x4 := HX8.out.box.cell 4 _ rfl
                          have x5 := HX8.out.box.cell 5 _ rfl
                          have y0 := HX8.out.res.cell 0 _ rfl
                          have yf0 := HX8.out.res.fr 0 (by simp)
                          have y1 := HX8.out.res.cell 1 _ rfl
                          have yf1 := HX8.out.res.fr 1 (by simp)
                          have y2 := HX8.out.res.cell 2 _ rfl
                          have yf2 := HX8.out.res.fr 2 (by simp)
                          have y3 := HX8.out.res.cell 3 _ rfl
                          have yf3 := HX8.out.res.fr 3 (by simp)
                          have y4 := HX8.out.res.cell 4 _ rfl
                          have yf4 := HX8.out.res.fr 4 (by simp)
                          have y5 := HX8.out.res.cell 5 _ rfl
                          have yf5 := HX8.out.res.fr 5 (by simp)
                          have hxl := HX8.out.box.lt
                          have hyl := HX8.out.res.lt
                          have hne1 : ¬ w.heap.size = w1.heap.size := by omega
                          have hne2 : ¬ w1.heap.size = w.heap.size := by omega
                          have FX := Lib.hid fx
                          clear fx
                          go_wp2
                          obtain ⟨F1, F2, F3, F4⟩ := FX.out
                          exact bodyPost_ret (v := .agg #[.int .i64 id, .string s1, .int .i64 day, .slice Aa zs.length ca, (Value.slice Ab ks.length cb), .int .i64 (bk)]) (by simp [results, Tryd.results47, go_sem, y0, y1, y2, y3, y4, y5, hyl, hne1, hne2]) rfl ⟨⟨id, s1, day, zs, ks, (bk)⟩, _, _, _, rfl, F1, F2, ⟨by first | exact hs1 | assumption, by first | (dsimp only; omega) | (simp; done), by first | (dsimp only; omega) | (simp; done)⟩, by omega, F3, F4⟩
end Go.Proofs.YtehohkdipfphmaaDoor
