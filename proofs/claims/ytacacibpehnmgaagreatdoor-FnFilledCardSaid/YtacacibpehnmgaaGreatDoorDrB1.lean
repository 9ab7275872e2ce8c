/- What the cursor draws of stock books: the list of the call's own beside the cursor, a row under way. -/
import Derived.Test.YtacacibpehnmgaaGreatDoorStoH
import Derived.Test.YtacacibpehnmgaaGreatDoorCurL
namespace Go.Proofs.YtacacibpehnmgaaGreatDoor
set_option linter.unusedVariables false
set_option linter.unusedSimpArgs false
open Go.RowKit

/-- A row appended to a list of the call's own; the inner row lies apart. -/
theorem OwnB.snocD {w w' : World} {lo E EI : Nat} {v v' u : Value} {gs : List BR} {vs : List Value} {x : BR} (h : OwnB w lo E EI v gs vs) (ho : w'.ownsRow lo E 2 v' (gs.length + 1) (cellsB gs vs ++ [.int .i64 x.id, u])) (hg : w.grownBy w' v.ownBlock)
    (hv : ∀ k, v'.ownBlock = some k → v.ownBlock = some k ∨ w.heap.size ≤ k) (hu : w.ownsRow lo EI 1 u x.ws.length (cells1 x.ws)) (hun : ∀ (j : Nat) (a : Value) (k : Nat), (v :: vs)[j]? = some a → a.ownBlock = some k → u.ownBlock ≠ some k) : OwnB w' lo E EI v' (gs ++ [x]) (vs ++ [u]) := by
  have hlt := h.lt
  obtain ⟨hl, hr, hi, ha⟩ := h
  have hus : u.ownBlock = none ∨ u.ownBlock ≠ v.ownBlock := by
    cases e : u.ownBlock with
    | none => exact .inl rfl
    | some k => exact .inr fun e2 => hun 0 v k rfl e2.symm e
  refine ⟨by simp [hl], by rw [List.length_append, cellsB_append hl]; exact ho, fun j y z hy hz => ?_, ?_⟩
  · rcases Nat.lt_or_ge j gs.length with hj | hj
    · rw [List.getElem?_append_left hj] at hy
      rw [List.getElem?_append_left (by omega)] at hz
      exact (hi j y z hy hz).kept hg (ha.ne (i := j + 1) (j := 0) (by omega) (by simpa using hz) rfl)
    · have hj1 : j < gs.length + 1 := by have := (List.getElem?_eq_some_iff.1 hy).1; simpa using this
      obtain rfl : j = gs.length := by omega
      rw [List.getElem?_append_right (Nat.le_refl _), Nat.sub_self] at hy
      rw [List.getElem?_append_right (by omega), show gs.length - vs.length = 0 by omega] at hz
      simp at hy hz; subst hy; subst hz
      exact hu.kept hg hus
  · have h1 : Apart (vs ++ [u]) := by
      refine apart_of fun i j a b k hij hia hib hk hk' => ?_
      have hil : i < vs.length + 1 := by have := (List.getElem?_eq_some_iff.1 hia).1; simpa using this
      have hjl : j < vs.length + 1 := by have := (List.getElem?_eq_some_iff.1 hib).1; simpa using this
      rcases Nat.lt_or_ge i vs.length with hi1 | hi1
      · rw [List.getElem?_append_left hi1] at hia
        rcases Nat.lt_or_ge j vs.length with hj1 | hj1
        · rw [List.getElem?_append_left hj1] at hib
          exact ha.no (i := i + 1) (j := j + 1) (by omega) (by simpa using hia) (by simpa using hib) hk hk'
        · obtain rfl : j = vs.length := by omega
          rw [List.getElem?_append_right (Nat.le_refl _), Nat.sub_self] at hib
          simp at hib; subst hib
          exact hun (i + 1) a k (by simpa using hia) hk hk'
      · obtain rfl : i = vs.length := by omega
        rw [List.getElem?_append_right (Nat.le_refl _), Nat.sub_self] at hia
        simp at hia; subst hia
        rw [List.getElem?_append_left (by omega)] at hib
        exact hun (j + 1) b k (by simpa using hib) hk' hk
    refine apart_cons h1 fun j b k hb hk hbk => ?_
    have hjl : j < vs.length + 1 := by have := (List.getElem?_eq_some_iff.1 hb).1; simpa using this
    rcases hv k hk with e | e
    · rcases Nat.lt_or_ge j vs.length with hj1 | hj1
      · rw [List.getElem?_append_left hj1] at hb
        exact ha.no (i := 0) (j := j + 1) (by omega) rfl (by simpa using hb) e hbk
      · obtain rfl : j = vs.length := by omega
        rw [List.getElem?_append_right (Nat.le_refl _), Nat.sub_self] at hb
        simp at hb; subst hb
        exact hun 0 v k rfl e hbk
    · rcases Nat.lt_or_ge j vs.length with hj1 | hj1
      · rw [List.getElem?_append_left hj1] at hb
        have := (hlt (j + 1) b k (by simpa using hb) hbk).2
        omega
      · obtain rfl : j = vs.length := by omega
        rw [List.getElem?_append_right (Nat.le_refl _), Nat.sub_self] at hb
        simp at hb; subst hb
        have := (hu.lt k hbk).2
        omega

/-- The call returns a list of rows in new memory, ten at most with thirteen numbers at most; the cursor is d bytes further at most. -/
def RetCB (E EI p : Nat) (u : Cu) (k d : Nat) (W : World) : Ending → World → Prop := fun e w' => ∃ v xs vs k', e = .returned v ∧ OwnB w' W.heap.size E EI v xs vs ∧ xs.length ≤ 10 ∧ (∀ x ∈ xs, x.ws.length ≤ 13) ∧ k' ≤ k + d ∧ CurB w' p u k' ∧ W.grownBy w' (some p)
structure BRel (W : World) (E EI p : Nat) (u : Cu) (xs : List BR) (v : Value) (vs : List Value) (k : Nat) (wr : World) : Prop where
  own : OwnB wr W.heap.size E EI v xs vs
  cur : CurB wr p u k
  gr : W.grownBy wr (some p)
theorem BRel.sz {W wr : World} {E EI p k : Nat} {u : Cu} {xs : List BR} {v : Value} {vs : List Value} (h : BRel W E EI p u xs v vs k wr) : W.heap.size ≤ wr.heap.size := h.gr.size
theorem BRel.call {W wr w1 : World} {E EI p k k1 : Nat} {u : Cu} {xs : List BR} {v : Value} {vs : List Value} (h : BRel W E EI p u xs v vs k wr) (hp : p < W.heap.size) (hc : CurB w1 p u k1) (hg : wr.grownBy w1 (some p)) : BRel W E EI p u xs v vs k1 w1 :=
  ⟨h.own.only (Only.of_grown hg) (fun j a b ha hk hS => by have := (h.own.lt j a b ha hk).1; injection hS with hS; omega), hc, grown_trans h.gr hg⟩
theorem BRel.below {W wr w1 : World} {E EI p k : Nat} {u : Cu} {xs : List BR} {v : Value} {vs : List Value} (h : BRel W E EI p u xs v vs k wr) (hb : Below wr.heap.size wr w1) : BRel W E EI p u xs v vs k w1 :=
  ⟨h.own.below hb, h.cur.grown hb, grown_trans h.gr (grown_below hb)⟩
/-- Another list of the call's own, in a world that differs from wr in blocks of S alone, none of the cursor, none of old ones. -/
theorem BRel.turn {W wr w1 : World} {S : Nat → Prop} {E EI p k : Nat} {u : Cu} {xs ys : List BR} {v v' : Value} {vs vs' : List Value} (h : BRel W E EI p u xs v vs k wr) (hp : p < W.heap.size) (hw : Only S wr w1) (hS : ∀ b, S b → W.heap.size ≤ b) (hown : OwnB w1 W.heap.size E EI v' ys vs') : BRel W E EI p u ys v' vs' k w1 := by
  have hbl : Below W.heap.size wr w1 := hw.below hS h.sz
  obtain ⟨⟨s, K⟩, r, f, by_, l⟩ := h.cur
  refine ⟨hown, ⟨⟨s, K.below hbl hp⟩, ?_, f, by_, l⟩, ?_⟩
  · rcases r with r | ⟨g, o, e, hg, hc⟩
    · exact .inl r
    · by_cases h0 : u.zs = []
      · left; simp [cellsU, h0]
      · have hgp := f h0 g o none e
        exact .inr ⟨g, o, e, Nat.lt_of_lt_of_le hg hw.size, fun q x hx => (hbl.cell (p := ⟨g, _, none⟩) (Nat.lt_trans hgp hp)).trans (hc q x hx)⟩
  · exact ⟨hw.os.trans h.gr.os, hw.tape.trans h.gr.tape, hw.output.trans h.gr.output, Nat.le_trans h.gr.size hw.size, fun b hb hne => (hw.block b (Nat.lt_of_lt_of_le hb h.gr.size) (fun e => by have := hS b e; omega)).trans (h.gr.block b hb hne)⟩
theorem BRel.only {W wr w1 : World} {S : Nat → Prop} {E EI p k : Nat} {u : Cu} {xs : List BR} {v : Value} {vs : List Value} (h : BRel W E EI p u xs v vs k wr) (hp : p < W.heap.size) (hw : Only S wr w1) (hS : ∀ b, S b → W.heap.size ≤ b) (hd : ∀ (j : Nat) (a : Value) (b : Nat), (v :: vs)[j]? = some a → a.ownBlock = some b → S b → False) : BRel W E EI p u xs v vs k w1 :=
  h.turn hp hw hS (h.own.only hw hd)
/-- One more row, its slice in new memory. -/
theorem BRel.app {W wr w2 : World} {E EI p k lo : Nat} {u : Cu} {xs : List BR} {v v' a : Value} {vs : List Value} {x : BR} (h : BRel W E EI p u xs v vs k wr) (hp : p < W.heap.size) (hlo : W.heap.size ≤ lo) (row : wr.ownsRow lo EI 1 a x.ws.length (cells1 x.ws))
    (old : ∀ (j : Nat) (a' : Value) (q : Nat), (v :: vs)[j]? = some a' → a'.ownBlock = some q → q < lo) (ho : w2.ownsRow W.heap.size E 2 v' (xs.length + 1) (cellsB xs vs ++ [.int .i64 x.id, a])) (hg : wr.grownBy w2 v.ownBlock) (hd : v'.ownBlock = v.ownBlock ∨ v'.ownBlock = some wr.heap.size) :
    BRel W E EI p u (xs ++ [x]) v' (vs ++ [a]) k w2 :=
  h.turn hp (Only.of_grown hg) (fun b hb => (h.own.lt 0 v b rfl hb).1) (h.own.snocD ho hg (fun q hq => by
    rcases hd with e | e
    · exact .inl (by rw [← e]; exact hq)
    · rw [e] at hq; injection hq with hq; exact .inr (by omega)) (own_mono row hlo) (fun j a2 b h1 h2 e => by have := old j a2 b h1 h2; have := (row.lt b e).1; omega))
/-- A row under way: a box of an id and a slice, the slice's row above lo. -/
structure RRel (W : World) (E EI p rb lo : Nat) (u : Cu) (xs : List BR) (v : Value) (vs : List Value) (z : Int) (ws : List Int) (a : Value) (k : Nat) (wr : World) : Prop where
  b : BRel W E EI p u xs v vs k wr
  box : Blk wr rb [.int .i64 z, a]
  row : wr.ownsRow lo EI 1 a ws.length (cells1 ws)
  hlo : W.heap.size ≤ lo
  hrb : W.heap.size ≤ rb
  old : ∀ (j : Nat) (a' : Value) (q : Nat), (v :: vs)[j]? = some a' → a'.ownBlock = some q → q < lo ∧ q ≠ rb
  ne : a.ownBlock ≠ some rb
namespace RRel
variable {W wr w1 w2 : World} {E EI p rb lo k : Nat} {u : Cu} {xs : List BR} {v : Value} {vs : List Value} {z : Int} {ws : List Int} {a : Value}
theorem call {k1 : Nat} (h : RRel W E EI p rb lo u xs v vs z ws a k wr) (hp : p < W.heap.size) (hc : CurB w1 p u k1) (hg : wr.grownBy w1 (some p)) : RRel W E EI p rb lo u xs v vs z ws a k1 w1 :=
  ⟨h.b.call hp hc hg, h.box.grown hg (fun e => by injection e with e; have := h.hrb; omega), own_grown h.row hg (by have := h.hlo; omega), h.hlo, h.hrb, h.old, h.ne⟩
theorem below (h : RRel W E EI p rb lo u xs v vs z ws a k wr) (hb : Below wr.heap.size wr w1) : RRel W E EI p rb lo u xs v vs z ws a k w1 :=
  ⟨h.b.below hb, h.box.below hb h.box.lt, own_below h.row hb, h.hlo, h.hrb, h.old, h.ne⟩
theorem new {w0 : World} (h : BRel W E EI p u xs v vs k w0) (E2 : TypeId) : RRel W E EI p w0.heap.size w0.heap.size u xs v vs z [] (.slice none 0 0) k (w0.alloc (.cells #[.int .i64 z, .slice none 0 0] E2)) where
  b := h.below ((Below.refl _ _).alloc (Nat.le_refl _) _)
  box := Blk.new w0 [.int .i64 z, .slice none 0 0] E2
  row := World.ownsRow_nil _ _ _ _
  hlo := h.sz
  hrb := h.sz
  old := fun j a' q h1 h2 => by have := (h.own.lt j a' q h1 h2).2; omega
  ne := fun e => by cases e
/-- One more number. -/
theorem push {x : Int} {a' : Value} (h : RRel W E EI p rb lo u xs v vs z ws a k wr) (hp : p < W.heap.size) (ho : w2.ownsRow lo EI 1 a' (ws.length + 1) (cells1 ws ++ [.int .i64 x])) (hg : wr.grownBy w2 a.ownBlock) (hd : a'.ownBlock = a.ownBlock ∨ a'.ownBlock = some wr.heap.size) :
    RRel W E EI p rb lo u xs v vs z (ws ++ [x]) a' k (w2.setCell ⟨rb, 1, none⟩ a') := by
  have hne : a'.ownBlock ≠ some rb := by
    rcases hd with e | e
    · rw [e]; exact h.ne
    · rw [e]; intro e2; injection e2 with e2; have := h.box.lt; omega
  have hb2 := h.b.only hp (Only.of_grown hg) (fun b hb => by have := (h.row.lt b hb).1; have := h.hlo; omega) (fun j a2 b h1 h2 h3 => by have := (h.old j a2 b h1 h2).1; have := (h.row.lt b h3).1; omega)
  have hb3 := hb2.only hp (Only.of_grown (grown_cell w2 rb 1 a')) (fun b hb => by injection hb with hb; have := h.hrb; omega) (fun j a2 b h1 h2 h3 => by injection h3 with h3; have := (h.old j a2 b h1 h2).2; omega)
  have hx := (h.box.grown hg (fun e => h.ne e.symm)).set (i := 1) (by simp) a'
  refine ⟨hb3, hx, ?_, h.hlo, h.hrb, h.old, hne⟩
  have := ho.kept (grown_cell w2 rb 1 a') (.inr hne)
  rw [cells1_append, List.length_append]
  exact this
/-- The row behind the list. -/
theorem done {v' : Value} (h : RRel W E EI p rb lo u xs v vs z ws a k wr) (hp : p < W.heap.size) (ho : w2.ownsRow W.heap.size E 2 v' (xs.length + 1) (cellsB xs vs ++ [.int .i64 z, a])) (hg : wr.grownBy w2 v.ownBlock) (hd : v'.ownBlock = v.ownBlock ∨ v'.ownBlock = some wr.heap.size) :
    BRel W E EI p u (xs ++ [⟨z, ws⟩]) v' (vs ++ [a]) k w2 := by
  have hv0 : ∀ b, v.ownBlock = some b → W.heap.size ≤ b := fun b hb => (h.b.own.lt 0 v b rfl hb).1
  have hown := h.b.own.snocD (x := ⟨z, ws⟩) ho hg (fun q hq => by
    rcases hd with e | e
    · exact .inl (by rw [← e]; exact hq)
    · rw [e] at hq; injection hq with hq; exact .inr (by omega)) (own_mono h.row h.hlo) (fun j a2 b h1 h2 e => by have := (h.old j a2 b h1 h2).1; have := (h.row.lt b e).1; omega)
  obtain ⟨⟨s, K⟩, r, f, by_, l⟩ := h.b.cur
  refine ⟨hown, ⟨⟨s, K.grown hg (fun e => by have := hv0 p e.symm; omega)⟩, rdU r f hg (fun b hb => by have := hv0 b hb; omega), f, by_, l⟩, ?_⟩
  have g0 := h.b.gr
  exact ⟨hg.os.trans g0.os, hg.tape.trans g0.tape, hg.output.trans g0.output, Nat.le_trans g0.size hg.size, fun b hb hne => (hg.block b (Nat.lt_of_lt_of_le hb g0.size) (fun e => by have := hv0 b e.symm; omega)).trans (g0.block b hb hne)⟩
end RRel
theorem ownB_one (w : World) (lo E EI : Nat) (i : Int) (n : Nat) (arr : Array Value) (zs : List Int) (ha : arr.toList = cells1 zs) (hz : zs.length = n) (h : lo ≤ w.heap.size) (hm : n ≤ maxLen) :
    OwnB ((w.alloc (.cells arr EI)).alloc (.cells #[.int .i64 i, .slice (some ⟨w.heap.size, 0, none⟩) n n] E)) lo E EI (.slice (some ⟨w.heap.size + 1, 0, none⟩) 1 1) [⟨i, zs⟩] [.slice (some ⟨w.heap.size, 0, none⟩) n n] := by
  have z1 : (w.alloc (.cells arr EI)).heap.size = w.heap.size + 1 := by simp
  have hal : arr.size = n := by rw [← Array.length_toList, ha, length_cells1, hz]
  have r1 := World.ownsRow_lit (e := EI) (base := lo) w arr (size := 1) n h hm (by omega)
  have r3 := World.ownsRow_lit (e := E) (base := lo) (w.alloc (.cells arr EI)) #[.int .i64 i, .slice (some ⟨w.heap.size, 0, none⟩) n n] (size := 2) 1 (by omega) (by unfold maxLen; omega) rfl
  rw [z1] at r3
  rw [ha] at r1
  have q1 := own_below r1 ((Below.refl _ _).alloc (Nat.le_refl _) (.cells #[.int .i64 i, .slice (some ⟨w.heap.size, 0, none⟩) n n] E))
  refine ⟨rfl, r3, fun q x u hx hu => ?_, ?_⟩
  · match q, hx, hu with
    | 0, hx, hu => simp at hx hu; subst hx; subst hu; show World.ownsRow _ _ _ _ _ zs.length _; rw [hz]; exact q1
    | q + 1, hx, _ => simp at hx
  · intro q1 q2 x y k hlt hx hy hk hk2
    match q1, q2, hlt, hx, hy with
    | 0, 1, _, hx, hy => simp at hx hy; subst hx; subst hy; simp [Value.ownBlock] at hk hk2; omega
    | _, q + 2, _, _, hy => simp at hy
    | q + 1, 1, h, _, _ => omega
theorem ownB_two (w : World) (lo E EI : Nat) (i j a b c d a' b' c' d' : Int) (h : lo ≤ w.heap.size) :
    OwnB (((w.alloc (.cells #[.int .i64 a, .int .i64 b, .int .i64 c, .int .i64 d] EI)).alloc (.cells #[.int .i64 a', .int .i64 b', .int .i64 c', .int .i64 d'] EI)).alloc (.cells #[.int .i64 i, .slice (some ⟨w.heap.size, 0, none⟩) 4 4, .int .i64 j, .slice (some ⟨w.heap.size + 1, 0, none⟩) 4 4] E)) lo E EI
      (.slice (some ⟨w.heap.size + 2, 0, none⟩) 2 2) [⟨i, [a, b, c, d]⟩, ⟨j, [a', b', c', d']⟩] [.slice (some ⟨w.heap.size, 0, none⟩) 4 4, .slice (some ⟨w.heap.size + 1, 0, none⟩) 4 4] := by
  have z1 : (w.alloc (.cells #[.int .i64 a, .int .i64 b, .int .i64 c, .int .i64 d] EI)).heap.size = w.heap.size + 1 := by simp
  have z2 : ((w.alloc (.cells #[.int .i64 a, .int .i64 b, .int .i64 c, .int .i64 d] EI)).alloc (.cells #[.int .i64 a', .int .i64 b', .int .i64 c', .int .i64 d'] EI)).heap.size = w.heap.size + 2 := by simp
  have r1 : (w.alloc (.cells #[.int .i64 a, .int .i64 b, .int .i64 c, .int .i64 d] EI)).ownsRow lo EI 1 (.slice (some ⟨w.heap.size, 0, none⟩) 4 4) 4 (cells1 [a, b, c, d]) := World.ownsRow_lit w _ 4 h (by unfold maxLen; omega) rfl
  have r2 := World.ownsRow_lit (e := EI) (base := lo) (w.alloc (.cells #[.int .i64 a, .int .i64 b, .int .i64 c, .int .i64 d] EI)) #[.int .i64 a', .int .i64 b', .int .i64 c', .int .i64 d'] (size := 1) 4 (by omega) (by unfold maxLen; omega) rfl
  rw [z1] at r2
  have r3 := World.ownsRow_lit (e := E) (base := lo) ((w.alloc (.cells #[.int .i64 a, .int .i64 b, .int .i64 c, .int .i64 d] EI)).alloc (.cells #[.int .i64 a', .int .i64 b', .int .i64 c', .int .i64 d'] EI)) #[.int .i64 i, .slice (some ⟨w.heap.size, 0, none⟩) 4 4, .int .i64 j, .slice (some ⟨w.heap.size + 1, 0, none⟩) 4 4] (size := 2) 2 (by omega) (by unfold maxLen; omega) rfl
  rw [z2] at r3
  have q1 := own_below (own_below r1 ((Below.refl _ _).alloc (Nat.le_refl _) (.cells #[.int .i64 a', .int .i64 b', .int .i64 c', .int .i64 d'] EI))) ((Below.refl _ _).alloc (Nat.le_refl _) (.cells #[.int .i64 i, .slice (some ⟨w.heap.size, 0, none⟩) 4 4, .int .i64 j, .slice (some ⟨w.heap.size + 1, 0, none⟩) 4 4] E))
  have q2 := own_below r2 ((Below.refl _ _).alloc (Nat.le_refl _) (.cells #[.int .i64 i, .slice (some ⟨w.heap.size, 0, none⟩) 4 4, .int .i64 j, .slice (some ⟨w.heap.size + 1, 0, none⟩) 4 4] E))
  refine ⟨rfl, r3, fun q x u hx hu => ?_, ?_⟩
  · match q, hx, hu with
    | 0, hx, hu => simp at hx hu; subst hx; subst hu; exact q1
    | 1, hx, hu => simp at hx hu; subst hx; subst hu; exact q2
    | q + 2, hx, _ => simp at hx
  · intro q1 q2 x y k hlt hx hy hk hk2
    match q1, q2, hlt, hx, hy with
    | 0, 1, _, hx, hy => simp at hx hy; subst hx; subst hy; simp [Value.ownBlock] at hk hk2; omega
    | 0, 2, _, hx, hy => simp at hx hy; subst hx; subst hy; simp [Value.ownBlock] at hk hk2; omega
    | 1, 2, _, hx, hy => simp at hx hy; subst hx; subst hy; simp [Value.ownBlock] at hk hk2; omega
    | _, q + 3, _, _, hy => simp at hy
    | q + 2, 2, h, _, _ => omega
    | q + 1, 1, h, _, _ => omega
end Go.Proofs.YtacacibpehnmgaaGreatDoor
