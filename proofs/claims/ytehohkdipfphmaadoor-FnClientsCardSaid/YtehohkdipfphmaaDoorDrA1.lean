/- Lists of approvals beside the drawing cursor; a text of some that the cursor draws. -/
import Derived.Test.YtehohkdipfphmaaDoorCurLAp
import Derived.Test.YtehohkdipfphmaaDoorAppC
import Derived.Test.YtehohkdipfphmaaDoorPut
namespace Go.Proofs.YtehohkdipfphmaaDoor
set_option linter.unusedVariables false
set_option linter.unusedSimpArgs false
open Go.RowKit

/-- It reads so, whatever happens in the blocks of S and in new ones. -/
def StI (S : Nat → Prop) (w : World) (v : Value) (zs : List Int) : Prop := ∀ w', Only S w w' → RdI w' v zs
theorem StI.rd {S : Nat → Prop} {w : World} {v : Value} {zs : List Int} (h : StI S w v zs) : RdI w v zs := h w (Only.refl _ _)
theorem StI.turn {S T U : Nat → Prop} {w w2 : World} {v : Value} {zs : List Int} (h : StI S w v zs) (hw : Only T w w2) (hT : ∀ b, T b → b < w.heap.size → S b) (hU : ∀ b, U b → b < w.heap.size → S b) : StI U w2 v zs := fun w' h' =>
  h w' ⟨h'.os.trans hw.os, h'.tape.trans hw.tape, h'.output.trans hw.output, Nat.le_trans hw.size h'.size, fun k hk hn => (h'.block k (Nat.lt_of_lt_of_le hk hw.size) (fun e => hn (hU k e hk))).trans (hw.block k hk (fun e => hn (hT k e hk)))⟩
theorem StI.of_own {S : Nat → Prop} {w : World} {base e : Nat} {v : Value} {zs : List Int} (h : w.ownsRow base e 1 v zs.length (cells1 zs)) (hS : ∀ b, v.ownBlock = some b → S b → False) : StI S w v zs := fun _ hw =>
  RdI.of_own (own_only h hw hS)
theorem StI.sub {S T : Nat → Prop} {w : World} {v : Value} {zs : List Int} (h : StI S w v zs) (hT : ∀ b, T b → b < w.heap.size → S b) : StI T w v zs := h.turn (Only.refl T w) hT hT
theorem StI.nil (S : Nat → Prop) (w : World) : StI S w (.slice none 0 0) [] := fun _ _ => ⟨none, 0, rfl, by simp, by simp, .inl rfl⟩
/-- A row of numbers in a new block, cut. -/
theorem StI.lit {p n c : Nat} {w : World} (zs : List Int) (t : TypeId) (hn : n ≤ zs.length) (hc : zs.length = c) (hcm : c ≤ maxLen) (hp : p < w.heap.size) : StI (· = p) (w.alloc (.cells (cells1 zs).toArray t)) (.slice (some ⟨w.heap.size, 0, none⟩) n c) (zs.take n) := fun w' hw => by
  have hl : (zs.take n).length = n := by rw [List.length_take]; omega
  refine ⟨some ⟨w.heap.size, 0, none⟩, c, by rw [hl], by omega, hcm, rd_take1 ?_ n⟩
  rcases rd_ints (w := w) zs t with h | ⟨g, o, e, hg, hcc⟩
  · exact .inl h
  · have eg : g = w.heap.size := by injection e with e; injection e with e; exact e.symm
    exact .inr ⟨g, o, e, Nat.lt_of_lt_of_le hg hw.size, fun j v hv => (World.cell?_of_block (a := ⟨g, o + j, none⟩) (hw.block g hg (by omega))).trans (hcc j v hv)⟩

/-- Small enough, as drawn. -/
def dsA (x : AR) : Prop := x.client.size ≤ 10 ∧ x.items.length ≤ 9 ∧ x.kept.length ≤ 9
theorem dsA.sm {x : AR} (h : dsA x) : smA x := ⟨by have := h.1; omega, by have := h.2.1; omega, by have := h.2.2; omega⟩
/-- A list of approvals: its rows own, their slices readable whatever happens to the cursor and the list itself. -/
structure InA (w : World) (lo E p : Nat) (v : Value) (xs : List AR) (vs : List Value) : Prop where
  len : vs.length = 2 * xs.length
  row : w.ownsRow lo E 6 v xs.length (cellsA xs vs)
  inn : ∀ (j : Nat) (zs : List Int) (u : Value), (innA xs)[j]? = some zs → vs[j]? = some u → StI (fun b => b = p ∨ v.ownBlock = some b) w u zs
  ds : ∀ x ∈ xs, dsA x
theorem InA.rd {w : World} {lo E p c : Nat} {A : Option Addr} {xs : List AR} {vs : List Value} (h : InA w lo E p (.slice A xs.length c) xs vs) : RdA w A xs := by
  rcases Rd.of_own h.row with h0 | ⟨g, o, e, hg, hc⟩
  · left
    have := length_cellsA h.len
    rw [h0] at this
    exact List.eq_nil_of_length_eq_zero (by simp at this; omega)
  · refine .inr ⟨g, o, e, hg, fun k x hx => ?_⟩
    have hk := (List.getElem?_eq_some_iff.1 hx).1
    have h1 : 2 * k < vs.length := by have := h.len; omega
    have h2 : 2 * k + 1 < vs.length := by have := h.len; omega
    obtain ⟨i1, i2⟩ := innA_get hx
    obtain ⟨g0, g1, g2, g3, g4, g5⟩ := cellsA_get hx (List.getElem?_eq_getElem h1) (List.getElem?_eq_getElem h2)
    refine ⟨by have := (h.ds x (List.mem_of_getElem? hx)).1; unfold maxLen; omega, hc _ _ g0, ?_, ?_, ⟨_, ?_, (h.inn _ _ _ i1 (List.getElem?_eq_getElem h1)).rd⟩, ⟨_, ?_, (h.inn _ _ _ i2 (List.getElem?_eq_getElem h2)).rd⟩, ?_⟩
    · have := hc _ _ g1; rw [← Nat.add_assoc] at this; exact this
    · have := hc _ _ g2; rw [← Nat.add_assoc] at this; exact this
    · have := hc _ _ g3; rw [← Nat.add_assoc] at this; exact this
    · have := hc _ _ g4; rw [← Nat.add_assoc] at this; exact this
    · have := hc _ _ g5; rw [← Nat.add_assoc] at this; exact this
theorem InA.rd2 {w : World} {lo E p n c : Nat} {A : Option Addr} {xs : List AR} {vs : List Value} (h : InA w lo E p (.slice A n c) xs vs) : RdA w A xs := by
  obtain ⟨A', c', e⟩ := own_form h.row
  injection e with e1 e2 e3
  subst e2
  exact h.rd
theorem InA.cap {w : World} {lo E p n c : Nat} {A : Option Addr} {xs : List AR} {vs : List Value} (h : InA w lo E p (.slice A n c) xs vs) (hn : xs.length = n) : n ≤ c ∧ c ≤ maxLen := by
  have := h.row
  rw [hn] at this
  exact own_capS this
theorem InA.sm {w : World} {lo E p : Nat} {v : Value} {xs : List AR} {vs : List Value} (h : InA w lo E p v xs vs) : ∀ x ∈ xs, smA x := fun x hx => (h.ds x hx).sm
/-- The world differs in the cursor and in new blocks. -/
theorem InA.keep {w w2 : World} {lo E p : Nat} {v : Value} {xs : List AR} {vs : List Value} (h : InA w lo E p v xs vs) (hp : p < lo) (hw : Only (· = p) w w2) : InA w2 lo E p v xs vs :=
  ⟨h.len, own_only h.row hw (fun k hk e => by have := (h.row.lt k hk).1; have e : k = p := e; omega), fun j zs u hz hu => (h.inn j zs u hz hu).turn hw (fun b hb _ => .inl hb) (fun b hb _ => hb), h.ds⟩
theorem InA.nil (w : World) (lo E p : Nat) (h : lo ≤ w.heap.size) : InA (w.alloc (.cells #[] E)) lo E p (.slice (some ⟨w.heap.size, 0, none⟩) 0 0) [] [] :=
  ⟨rfl, own_empty w lo E 6 h, fun j zs u hz _ => by simp [innA] at hz, fun x hx => by cases hx⟩
/-- One more approval behind the list. -/
theorem InA.snoc {w w1 w2 : World} {lo E p : Nat} {v v' a b : Value} {xs : List AR} {vs : List Value} {x : AR} (h : InA w lo E p v xs vs) (hb : Below w.heap.size w w1)
    (ha : StI (fun q => q = p ∨ v.ownBlock = some q) w a x.items) (hk : StI (fun q => q = p ∨ v.ownBlock = some q) w b x.kept) (hd : dsA x)
    (o' : w2.ownsRow lo E 6 v' (xs.length + 1) (cellsA xs vs ++ row6 x a b)) (g' : w1.grownBy w2 v.ownBlock) (d' : v'.ownBlock = v.ownBlock ∨ v'.ownBlock = some w1.heap.size) : InA w2 lo E p v' (xs ++ [x]) (vs ++ [a, b]) := by
  have hw : Only (fun q => v.ownBlock = some q) w w2 := (Only.of_below hb).trans (Only.of_grown g')
  have key : ∀ (u : Value) (zs : List Int), StI (fun q => q = p ∨ v.ownBlock = some q) w u zs → StI (fun q => q = p ∨ v'.ownBlock = some q) w2 u zs := fun u zs hu =>
    hu.turn hw (fun q hq _ => .inr hq) (fun q hq hlt => by
      rcases hq with hq | hq
      · exact .inl hq
      · rcases d' with d | d
        · exact .inr (d ▸ hq)
        · rw [d] at hq; injection hq with hq; have := hb.size; omega)
  have hl := h.len
  refine ⟨by simp [hl]; omega, by rw [List.length_append, cellsA_append hl]; exact o', fun j zs u hz hu => ?_, fun y hy => ?_⟩
  · rw [innA_app] at hz
    rcases Nat.lt_or_ge j vs.length with hjl | hjl
    · rw [List.getElem?_append_left hjl] at hu
      rw [List.getElem?_append_left (by rw [innA_len]; omega)] at hz
      exact key _ _ (h.inn j zs u hz hu)
    · have hj2 : j < vs.length + 2 := by have := (List.getElem?_eq_some_iff.1 hu).1; simpa using this
      rw [List.getElem?_append_right hjl] at hu
      rw [List.getElem?_append_right (by rw [innA_len]; omega), innA_len] at hz
      rcases Nat.lt_or_ge j (vs.length + 1) with hj1 | hj1
      · obtain rfl : j = vs.length := by omega
        rw [Nat.sub_self] at hu
        rw [show vs.length - 2 * xs.length = 0 by omega] at hz
        simp at hu hz; subst hu; subst hz
        exact key _ _ ha
      · obtain rfl : j = vs.length + 1 := by omega
        rw [show vs.length + 1 - vs.length = 1 by omega] at hu
        rw [show vs.length + 1 - 2 * xs.length = 1 by omega] at hz
        simp at hu hz; subst hu; subst hz
        exact key _ _ hk
  · rcases List.mem_append.1 hy with hy | hy
    · exact h.ds y hy
    · simp at hy; subst hy; exact hd
/-- The same rows in a list of its own, in memory that is new. -/
theorem InA.copy {w w1 w2 : World} {lo E p : Nat} {v v' : Value} {xs : List AR} {vs : List Value} (h : InA w lo E p v xs vs) (hw : Only (· = p) w w1) (o' : w2.ownsRow w.heap.size E 6 v' xs.length (cellsA xs vs)) (hlo : lo ≤ w.heap.size) (hb : Below w.heap.size w1 w2) : InA w2 lo E p v' xs vs :=
  ⟨h.len, own_mono o' hlo, fun j zs u hz hu => (h.inn j zs u hz hu).turn (T := (· = p)) ⟨hb.os.trans hw.os, hb.tape.trans hw.tape, hb.output.trans hw.output, Nat.le_trans hw.size hb.size, fun k hk hn => (hb.block k hk).trans (hw.block k hk hn)⟩ (fun b hb _ => .inl hb) (fun b hb2 hlt => by
    rcases hb2 with e | e
    · exact .inl e
    · have := (o'.lt b e).1; omega), h.ds⟩

theorem only_grown {w w' : World} {p : Nat} (h : w.grownBy w' (some p)) : Only (· = p) w w' := (Only.of_grown h).mono (fun k e => by injection e with e; exact e.symm)
/-- A list of the call's own beside the cursor. -/
structure ARel (W : World) (E p : Nat) (u : Cu) (xs : List AR) (v : Value) (vs : List Value) (k : Nat) (wr : World) : Prop where
  own : InA wr W.heap.size E p v xs vs
  cur : CurB wr p u k
  gr : W.grownBy wr (some p)
namespace ARel
variable {W wr w1 w2 : World} {E p k k1 : Nat} {u : Cu} {xs : List AR} {v : Value} {vs : List Value}
theorem sz (h : ARel W E p u xs v vs k wr) : W.heap.size ≤ wr.heap.size := h.gr.size
theorem call (h : ARel W E p u xs v vs k wr) (hp : p < W.heap.size) (hc : CurB w1 p u k1) (hg : wr.grownBy w1 (some p)) : ARel W E p u xs v vs k1 w1 :=
  ⟨h.own.keep hp (only_grown hg), hc, grown_trans h.gr hg⟩
theorem below (h : ARel W E p u xs v vs k wr) (hp : p < W.heap.size) (hb : Below wr.heap.size wr w1) : ARel W E p u xs v vs k w1 :=
  ⟨h.own.keep hp (Only.of_below hb), h.cur.grown hb, grown_trans h.gr (grown_below hb)⟩
theorem nil (E2 : TypeId) (hp : p < W.heap.size) (hc : CurB wr p u k) (hg : W.grownBy wr (some p)) : ARel W E2 p u [] (.slice (some ⟨wr.heap.size, 0, none⟩) 0 0) [] k (wr.alloc (.cells #[] E2)) :=
  ⟨InA.nil wr _ _ _ hg.size, hc.alloc _, grown_alloc hg _⟩
theorem snoc {v' a b : Value} {x : AR} (h : ARel W E p u xs v vs k wr) (hp : p < W.heap.size) (hb : Below wr.heap.size wr w1)
    (ha : StI (fun q => q = p ∨ v.ownBlock = some q) wr a x.items) (hk : StI (fun q => q = p ∨ v.ownBlock = some q) wr b x.kept) (hd : dsA x)
    (o' : w2.ownsRow W.heap.size E 6 v' (xs.length + 1) (cellsA xs vs ++ row6 x a b)) (g' : w1.grownBy w2 v.ownBlock) (d' : v'.ownBlock = v.ownBlock ∨ v'.ownBlock = some w1.heap.size) : ARel W E p u (xs ++ [x]) v' (vs ++ [a, b]) k w2 := by
  have h1 := h.below hp hb
  have hlo : ∀ b, v.ownBlock = some b → W.heap.size ≤ b := fun b hv => (h1.own.row.lt b hv).1
  refine ⟨h.own.snoc hb ha hk hd o' g' d', ?_, ?_⟩
  · obtain ⟨⟨s, K⟩, r, f, b, l⟩ := h1.cur
    exact ⟨⟨s, K.grown g' (fun e => by have := hlo p e.symm; omega)⟩, rdU r f g' (fun b hb => by have := hlo b hb; omega), f, b, l⟩
  · exact ⟨g'.os.trans h1.gr.os, g'.tape.trans h1.gr.tape, g'.output.trans h1.gr.output, Nat.le_trans h1.gr.size g'.size, fun b hb hne => (g'.block b (Nat.lt_of_lt_of_le hb h1.gr.size) (fun e => by have := hlo b e.symm; omega)).trans (h1.gr.block b hb hne)⟩
end ARel

/-! ### One of some texts -/
def cellsT (ts : List ByteArray) : List Value := ts.map (.string ·)
theorem rd_texts {w : World} (ts : List ByteArray) (t : TypeId) : Rd (w.alloc (.cells (cellsT ts).toArray t)) (some ⟨w.heap.size, 0, none⟩) (cellsT ts) := by
  have := rd_new (w := w) (cellsT ts).toArray t rfl
  simpa using this
def TextV (N : Nat) (v : Value) : Prop := ∃ s : ByteArray, v = .string s ∧ s.size ≤ N
set_option maxHeartbeats 2000000 in
theorem of_any (p k n c N : Nat) (u : Cu) (A : Option Addr) (ts : List ByteArray) (w : World) (h : CurB w p u k) (hk : k ≤ 900000) (hz : ts.length = n) (hn : 1 ≤ n) (hn2 : n ≤ 1000) (hA : Rd w A (cellsT ts)) (hf : ∀ g o q, A = some ⟨g, o, q⟩ → g ≠ p) (hN : ∀ t ∈ ts, t.size ≤ N) :
    Calls Tryd.prog 52 #[.pointer (some ⟨p, 0, none⟩), .slice A n c] w (RetC p u k 2 (TextV N) w) := by
  have C := Lib.hid (pick_any p k n u w h hk hn (by omega))
  have HA := Lib.hid hA
  have HF := Lib.hid hf
  have HNN := Lib.hid hN
  clear h hA hf hN
  go_enter Tryd.func52, Tryd.ntmps52
  go_wp2_with fail
  refine C.out.mono ?_
  rintro e w1 ⟨v1, k1, rfl, ⟨r, rfl, hr0, hr1⟩, hk1, hc1, hg1⟩
  obtain ⟨j, rfl⟩ : ∃ j : Nat, r = j := ⟨r.toNat, by omega⟩
  have hj : j < n := by omega
  obtain ⟨z, hzz⟩ : ∃ z, ts[j]? = some z := ⟨_, List.getElem?_eq_getElem (by omega)⟩
  have HM := Lib.hid (HNN.out z (List.mem_of_getElem? hzz))
  obtain ⟨g, o, hAe, hg, c0⟩ : ∃ g o, A = some ⟨g, o, none⟩ ∧ g < w1.heap.size ∧ w1.cell? ⟨g, o + j, none⟩ = some (.string z) := by
    rcases Rd.grown hg1 HA.out (fun g o q e => by have := HF.out g o q e; simpa using this) with h0 | ⟨g, o, e, hg, hc⟩
    · have : ts = [] := by simpa [cellsT] using h0
      subst this; simp at hzz
    · exact ⟨g, o, e, hg, hc j _ (by simp [cellsT, hzz])⟩
  subst hAe
  have hj0 : (0 : Int) ≤ (j : Int) := by omega
  have hjn : (j : Int) < (n : Int) := by omega
  have HC1 := Lib.hid hc1
  have HG1 := Lib.hid hg1
  clear hzz hc1 hg1 hz
  go_wp2
  go_ret
  exact ⟨_, k1, rfl, ⟨z, rfl, HM.out⟩, hk1, HC1.out, HG1.out⟩
end Go.Proofs.YtehohkdipfphmaaDoor
