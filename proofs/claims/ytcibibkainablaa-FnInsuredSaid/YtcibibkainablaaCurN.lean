/- What the law on insurances draws: a list, items, worths, a day. -/
import Derived.Test.YtcibibkainablaaCurM
import Derived.Test.YtcibibkainablaaPut
import Derived.Test.YtcibibkainablaaInsE
namespace Go.Proofs.Ytcibibkainablaa
set_option linter.unusedVariables false
set_option linter.unusedSimpArgs false
open Go.RowKit

theorem putV_le : ∀ (l : List Int) (z : Int), (putV l z).length ≤ l.length + 1
  | [], z => by simp [putV]
  | x :: r, z => by
    have := putV_le r z
    unfold putV
    (repeat' split) <;> simp <;> omega
def RetDU (W : World) : Ending → World → Prop := fun e w' => ∃ v xs v2 zs v3 ws d, e = .returned (.tuple #[v, v2, v3, .int .i64 d]) ∧ Lst w' v xs ∧ LstI w' v2 zs ∧ LstI w' v3 ws ∧ Below W.heap.size W w'
/-- While the items are drawn. -/
structure URel (w : World) (p : Nat) (u : Cu) (b1 s : Nat) (v0 : Value) (xs : List R5) (l : List Int) (v : Value) (k : Nat) (wr : World) : Prop where
  list : wr.ownsRow b1 26 5 v0 xs.length (cells5 xs)
  it : wr.ownsRow s 3 1 v l.length (cells1 l)
  wo : wr.ownsRow s 3 1 (.slice (some ⟨s + 1, 0, none⟩) 0 0) 0 []
  ec : ∀ q, wr.cell? ⟨s + 1, q, none⟩ = none
  lt : s + 1 < wr.heap.size
  cur : CurB wr p u k
  gr : w.grownBy wr (some p)
theorem URel.call {w wr w1 : World} {p b1 s k k1 : Nat} {u : Cu} {v0 v : Value} {xs : List R5} {l : List Int} (h : URel w p u b1 s v0 xs l v k wr) (hp : p < b1) (hs : p < s) (hc : CurB w1 p u k1) (hg : wr.grownBy w1 (some p)) : URel w p u b1 s v0 xs l v k1 w1 :=
  ⟨own_grown h.list hg hp, own_grown h.it hg hs, own_grown h.wo hg hs, fun q => (hg.cell_far ⟨s + 1, q, none⟩ h.lt (by simp; omega)).trans (h.ec q), Nat.lt_of_lt_of_le h.lt hg.size, hc, grown_trans h.gr hg⟩
theorem URel.put {w wr w1 : World} {p b1 s k : Nat} {u : Cu} {v0 v v' : Value} {xs : List R5} {l l' : List Int} (h : URel w p u b1 s v0 xs l v k wr) (ho : w1.ownsRow s 3 1 v' l'.length (cells1 l')) (hb : Below wr.heap.size wr w1) : URel w p u b1 s v0 xs l' v' k w1 :=
  ⟨own_below h.list hb, ho, own_below h.wo hb, fun q => (hb.cell (p := ⟨s + 1, q, none⟩) h.lt).trans (h.ec q), Nat.lt_of_lt_of_le h.lt hb.size, h.cur.grown hb, grown_trans h.gr (grown_below hb)⟩
/-- While the worths are drawn. -/
structure VRel (w : World) (p : Nat) (u : Cu) (b1 s : Nat) (v0 : Value) (xs : List R5) (Ai : Option Addr) (l : List Int) (ws : List Int) (v : Value) (k : Nat) (wr : World) : Prop where
  list : wr.ownsRow b1 26 5 v0 xs.length (cells5 xs)
  it : Rd wr Ai (cells1 l)
  wo : wr.ownsRow s 3 1 v ws.length (cells1 ws)
  ap : l ≠ [] → ∀ g q r, Ai = some ⟨g, q, r⟩ → g < wr.heap.size ∧ v.ownBlock ≠ some g
  sz : s ≤ wr.heap.size
  cur : CurB wr p u k
  gr : w.grownBy wr (some p)
theorem rdI {w w' : World} {row : Option Nat} {A : Option Addr} {l : List Int} (r : Rd w A (cells1 l)) (f : l ≠ [] → ∀ g o q, A = some ⟨g, o, q⟩ → some g ≠ row) (hg : w.grownBy w' row) : Rd w' A (cells1 l) := by
  by_cases h0 : l = []
  · left; rw [h0]; rfl
  · exact r.grown hg (f h0)
theorem VRel.call {w wr w1 : World} {p b1 s k k1 : Nat} {u : Cu} {v0 v : Value} {xs : List R5} {Ai : Option Addr} {l ws : List Int} (h : VRel w p u b1 s v0 xs Ai l ws v k wr) (hi : l ≠ [] → ∀ g q r, Ai = some ⟨g, q, r⟩ → g ≠ p) (hp : p < b1) (hs : p < s) (hc : CurB w1 p u k1) (hg : wr.grownBy w1 (some p)) : VRel w p u b1 s v0 xs Ai l ws v k1 w1 :=
  ⟨own_grown h.list hg hp, rdI h.it (fun h0 g q r e => by have := hi h0 g q r e; simpa using this) hg, own_grown h.wo hg hs, fun h0 g q r e => ⟨Nat.lt_of_lt_of_le (h.ap h0 g q r e).1 hg.size, (h.ap h0 g q r e).2⟩, Nat.le_trans h.sz hg.size, hc, grown_trans h.gr hg⟩
theorem VRel.below {w wr w1 : World} {p b1 s k : Nat} {u : Cu} {v0 v : Value} {xs : List R5} {Ai : Option Addr} {l ws : List Int} (h : VRel w p u b1 s v0 xs Ai l ws v k wr) (hb : Below wr.heap.size wr w1) : VRel w p u b1 s v0 xs Ai l ws v k w1 :=
  ⟨own_below h.list hb, h.it.below hb, own_below h.wo hb, fun h0 g q r e => ⟨Nat.lt_of_lt_of_le (h.ap h0 g q r e).1 hb.size, (h.ap h0 g q r e).2⟩, Nat.le_trans h.sz hb.size, h.cur.grown hb, grown_trans h.gr (grown_below hb)⟩
theorem VRel.push {w w1 w2 : World} {p b1 s k : Nat} {u : Cu} {v0 v v' : Value} {xs : List R5} {Ai : Option Addr} {l ws : List Int} {z : Int} (h : VRel w p u b1 s v0 xs Ai l ws v k w1) (hs : p < s) (hl : ∀ b, v0.ownBlock = some b → b < s) (hws : w.heap.size ≤ s)
    (ho : w2.ownsRow s 3 1 v' (ws.length + 1) (cells1 ws ++ [.int .i64 z])) (hg : w1.grownBy w2 v.ownBlock) (hd : v'.ownBlock = v.ownBlock ∨ v'.ownBlock = some w1.heap.size) : VRel w p u b1 s v0 xs Ai l (ws ++ [z]) v' k w2 := by
  have hlo : ∀ b, v.ownBlock = some b → s ≤ b := fun b hv => (h.wo.lt b hv).1
  refine ⟨h.list.kept hg ?_, rdI h.it (fun h0 g q r e e2 => (h.ap h0 g q r e).2 e2.symm) hg, ?_, fun h0 g q r e => ⟨Nat.lt_of_lt_of_le (h.ap h0 g q r e).1 hg.size, ?_⟩, Nat.le_trans h.sz hg.size, ?_, ?_⟩
  · rcases hv : v0.ownBlock with _ | b
    · exact .inl rfl
    · right
      intro e
      have h1 := hl b hv
      have h2 := hlo b e.symm
      omega
  · rw [List.length_append]; simpa [cells1] using ho
  · rcases hd with hd | hd
    · rw [hd]; exact (h.ap h0 g q r e).2
    · rw [hd]
      intro e2
      injection e2 with e2
      have := (h.ap h0 g q r e).1
      omega
  · obtain ⟨⟨t, K⟩, r, f, b, len⟩ := h.cur
    exact ⟨⟨t, K.grown hg (fun e => by have := hlo p e.symm; omega)⟩, rdU r f hg (fun b hb => by have := hlo b hb; omega), f, b, len⟩
  · exact ⟨hg.os.trans h.gr.os, hg.tape.trans h.gr.tape, hg.output.trans h.gr.output, Nat.le_trans h.gr.size hg.size, fun b hb hne => (hg.block b (Nat.lt_of_lt_of_le hb h.gr.size) (fun e => by have := hlo b e.symm; omega)).trans (h.gr.block b hb hne)⟩

set_option maxRecDepth 20000 in
set_option maxHeartbeats 8000000 in
theorem drawUnderInsured_any (B : Option Addr) (n c : Nat) (zs : List Int) (w : World) (hn : zs.length = n) (hB : Bytes w B zs) :
    Calls Try.prog 18 #[.slice B n c] w (RetDU w) := by
  have PK := Lib.hid (fun p u k m w h hk hm hm2 => pick_any p k m u w h hk hm hm2)
  have ON := Lib.hid (fun p u k m w h hk hm hm2 => one_any p k m u w h hk hm hm2)
  have PU := Lib.hid (fun lo v l z w ho hlo h20 => l1Put_any lo v l z w ho hlo h20)
  subst hn
  have HC0 := Lib.hid (CurB.new hB c 51)
  obtain ⟨u, hu⟩ : ∃ u : Cu, u = ⟨B, c, zs⟩ := ⟨_, rfl⟩
  rw [← hu] at HC0
  clear hu hB
  obtain ⟨p, hp⟩ : ∃ p, p = w.heap.size := ⟨_, rfl⟩
  have HP := Lib.hid hp
  have TR := Lib.hid (fun k w h hk => insureds26_any p k u w h hk)
  have IT := Lib.hid (fun k w A n c xs hn hx hA hf h hk => item26_any p k u w A n c xs hn hx hA hf h hk)
  have DY := Lib.hid (fun k w A n c xs hn hx hA hf h hk => day26_any p k u w A n c xs hn hx hA hf h hk)
  have WO := Lib.hid (fun k w h hk => worth26_any p k u w h hk)
  have II := Lib.hid (fun k a b w h hk => insured26_any p k u a b w h hk)
  have MO := Lib.hid (fun a b w => l1MostE a b w)
  have HC1 : Hid (CurB (w.alloc (.cells #[.slice B zs.length c, .int .i64 0, .int .u64 0] 51)) p u 0) := Lib.hid (by rw [hp]; exact HC0.out)
  have HBW : Hid (w.grownBy (w.alloc (.cells #[.slice B zs.length c, .int .i64 0, .int .u64 0] 51)) (some p)) := Lib.hid (World.grownBy_alloc w _ _)
  clear HC0 hp
  go_enter Try.func18, Try.ntmps18
  go_wp2_with fail
  rw [← HP.out]
  refine (TR.out 0 _ HC1.out (by omega)).mono ?_
  rintro e w1 ⟨v1, xs, k1, rfl, o1, hx, hk1, hc, hg⟩
  have hp1 : p < (w.alloc (.cells #[.slice B zs.length c, .int .i64 0, .int .u64 0] 51)).heap.size := by rw [HP.out]; simp
  obtain ⟨A, ca, rfl⟩ := own_form o1
  have HO1 := Lib.hid o1
  have HG1 := Lib.hid (grown_trans HBW.out hg)
  have HC := Lib.hid hc
  clear o1 hc hg HC1 HBW
  obtain ⟨s, hs⟩ : ∃ s, s = w1.heap.size := ⟨_, rfl⟩
  have HS := Lib.hid hs
  obtain ⟨b1, hb1⟩ : ∃ b1, b1 = (w.alloc (.cells #[.slice B zs.length c, .int .i64 0, .int .u64 0] 51)).heap.size := ⟨_, rfl⟩
  rw [← hb1] at HO1 hp1
  clear hb1
  have hps : p < s := by rw [hs]; exact HC.out.lt
  have hws : w.heap.size ≤ s := by rw [hs]; exact HG1.out.size
  have hls : ∀ b, (Value.slice A xs.length ca).ownBlock = some b → b < s := fun b hb => by rw [hs]; exact (HO1.out.lt b hb).2
  have HU0 : Hid (URel w p u b1 s (.slice A xs.length ca) xs [] (.slice (some ⟨s, 0, none⟩) 0 0) k1 ((w1.alloc (.cells #[] 3)).alloc (.cells #[] 3))) := Lib.hid (by
    subst hs
    have hbb : Below w1.heap.size w1 ((w1.alloc (.cells #[] 3)).alloc (.cells #[] 3)) := ((Below.refl _ _).alloc (Nat.le_refl _) _).alloc (by simp) _
    exact ⟨own_below HO1.out hbb, (own_empty w1 _ _ _ (Nat.le_refl _)).alloc _, own_empty' (by simp) (by simp), fun q => (World.cell?_alloc_at _ _ _ _ (by simp)).trans (by simp), by simp, HC.out.grown hbb, grown_trans HG1.out (grown_below hbb)⟩)
  clear HO1 HG1 HC hs
  go_wp2_with fail
  refine (PK.out p u k1 5 _ HU0.out.cur (by omega) (by decide) (by decide)).mono ?_
  rintro e w2 ⟨v2, k2, rfl, ⟨r2, rfl, a2, b2⟩, hk2, hc, hg⟩
  have HU2 := Lib.hid (HU0.out.call hp1 hps hc hg)
  clear hc hg HU0
  obtain ⟨q0, rfl⟩ : ∃ q0 : Nat, r2 = q0 := ⟨r2.toNat, by omega⟩
  have hq0 : q0 ≤ 4 := by omega
  have hwq : IntKind.i64.wrap (1 + (q0 : Int)) = 1 + (q0 : Int) := IntWalk.i64_in _ (by omega)
  clear a2 b2
  go_wp2_with fail
  try simp only [← HS.out]
  go_loopw [8, 10] (fun v i wr => ∃ (q : Nat) (l : List Int) (kk : Nat), i = .int .i64 q ∧ q ≤ 5 ∧ l.length + q ≤ q0 + 1 ∧ kk + 6 * q ≤ k2 + 6 * (q0 + 1) ∧ URel w p u b1 s (.slice A xs.length ca) xs l v kk wr) (fun _ i _ => (intOf i).toNat)
  case atStart => exact ⟨q0 + 1, [], k2, by go_num, by omega, by simp, by omega, HU2.out⟩
  case round =>
    obtain ⟨q, l, kk, rfl, hq5, hlq, hkk, hU⟩ := hrel
    have HU := Lib.hid hU
    clear hU HU2
    by_cases hq1 : 0 < q
    · have hq1' : (0 : Int) < (q : Int) := by omega
      go_wp2_with fail
      refine (IT.out kk _ A xs.length ca xs rfl hx (Rd.of_own HU.out.list) (own_far HU.out.list hp1) HU.out.cur (by omega)).mono ?_
      rintro e w3 ⟨v3, k3, rfl, ⟨z3, rfl⟩, hk3, hc, hg⟩
      have HU3 := Lib.hid (HU.out.call hp1 hps hc hg)
      clear hc hg HU
      go_wp2_with fail
      refine (PU.out s _ l z3 _ HU3.out.it (by have := HU3.out.lt; omega) (by omega)).mono ?_
      rintro e w4 ⟨v4, rfl, o4, b4⟩
      have HU4 := Lib.hid (HU3.out.put o4 b4)
      have hpl := putV_le l z3
      clear o4 b4 HU3
      go_wp2
      go_roundw
      case rel => exact ⟨q - 1, _, k3, by go_num, by omega, by omega, by omega, HU4.out⟩
      case measure => simp [intOf]; omega
    · obtain rfl : q = 0 := by omega
      obtain ⟨Ai, ci, rfl⟩ := own_form HU.out.it
      have hci := (own_capS HU.out.it).1
      have hcim := (own_capS HU.out.it).2
      have hip : l ≠ [] → ∀ g q r, Ai = some ⟨g, q, r⟩ → g ≠ p := fun _ g q r e => by subst e; have := (HU.out.it.lt g rfl).1; omega
      have HV0 : Hid (VRel w p u b1 s (.slice A xs.length ca) xs Ai l [] (.slice (some ⟨s + 1, 0, none⟩) 0 0) kk wr) := Lib.hid ⟨HU.out.list, Rd.of_own HU.out.it, HU.out.wo, fun h0 g q r e => ⟨by subst e; exact (HU.out.it.lt g rfl).2, fun e2 => by
        simp [Value.ownBlock] at e2
        obtain ⟨z, hz⟩ : ∃ z, l[0]? = some z := ⟨l[0]'(by cases l; exact absurd rfl h0; simp), List.getElem?_eq_getElem _⟩
        obtain ⟨g2, o2, e3, -, hc2⟩ := (Rd.of_own HU.out.it).at1 hz
        rw [e] at e3; injection e3 with e3; injection e3 with e4 e5
        rw [← e4, ← e2, HU.out.ec] at hc2; cases hc2⟩, by have := HU.out.lt; omega, HU.out.cur, HU.out.gr⟩
      clear HU
      rw [show ((0 : Nat) : Int) = 0 from rfl]
      go_wp2_with fail
      try simp only [← HS.out]
      go_loopw [9, 11] (fun v i wr => ∃ (t : Nat) (ws : List Int) (kq : Nat), i = .int .i64 t ∧ t ≤ l.length ∧ ws.length = t ∧ kq ≤ kk + 4 * t ∧ VRel w p u b1 s (.slice A xs.length ca) xs Ai l ws v kq wr) (fun _ i _ => l.length - (intOf i).toNat)
      case atStart => exact ⟨0, [], kk, rfl, by omega, rfl, by omega, HV0.out⟩
      case round =>
        obtain ⟨t, ws, kq, rfl, ht, hwt, hkq, hV⟩ := hrel
        obtain ⟨A9, c9, rfl⟩ := own_form hV.wo
        have HV := Lib.hid hV
        have HWT := Lib.hid hwt
        clear hV HV0 hwt
        by_cases htl : t < l.length
        · have htl' : (t : Int) < (l.length : Int) := by omega
          go_wp2_with fail
          refine (WO.out kq _ HV.out.cur (by omega)).mono ?_
          rintro e w5 ⟨v5, k5, rfl, ⟨z5, rfl⟩, hk5, hc, hg⟩
          have HV5 := Lib.hid (HV.out.call hip hp1 hps hc hg)
          clear hc hg HV
          have hbs : s ≤ (w5.alloc (.cells #[.int .i64 z5] 3)).heap.size := by have := HV5.out.sz; simp; omega
          have HVX := Lib.hid (HV5.out.below ((Below.refl _ _).alloc (Nat.le_refl _) (.cells #[.int .i64 z5] 3)))
          have HX : Hid (Rd (w5.alloc (.cells #[.int .i64 z5] 3)) (some ⟨w5.heap.size, 0, none⟩) (cells1 [z5])) := Lib.hid (rd_new #[.int .i64 z5] 3 rfl)
          have hn9 : ws.length ≤ 9 := by have := HWT.out; omega
          go_wp2_with (at_builtin; go_must (refine wpList_app _ rfl (.tmp 37) (.tmp 40) 37 rfl s 3 _ 1 8 Try.underlying37 info3 rfl (by omega) _ _ _ rfl HVX.out.wo _ 1 1 (cells1 [z5]) rfl rfl HX.out (ints_oneCell .i64 [z5]) (by unfold maxLen; omega) (by omega) hbs ?_); intro v6 w6 o6 g6 d6; refine Hid.out ?_)
          have HV6 := Lib.hid (HVX.out.push (z := z5) hps hls hws o6 g6 d6)
          clear o6 g6 d6 HX hbs HVX
          refine Lib.hid ?_
          obtain ⟨A6, c6, rfl⟩ : ∃ A6 c6, v6 = .slice A6 (ws ++ [z5]).length c6 := by obtain ⟨A6, c6, e⟩ := own_form HV6.out.wo; exact ⟨A6, c6, e⟩
          go_wp2
          go_roundw
          case rel => exact ⟨t + 1, _, k5, by go_num, by omega, by have := HWT.out; simp; omega, by omega, HV6.out⟩
          case measure => simp [intOf]; omega
        · obtain rfl : t = l.length := by omega
          go_wp2_with fail
          refine (ON.out p u kq 20 _ HV.out.cur (by omega) (by decide) (by decide)).mono ?_
          rintro e w5 ⟨v5, k5, rfl, ⟨b5, rfl⟩, hk5, hc, hg⟩
          have HV5 := Lib.hid (HV.out.call hip hp1 hps hc hg)
          clear hc hg HV
          cases b5 with
          | false =>
            go_wp2_with fail
            refine (DY.out k5 _ A xs.length ca xs rfl hx (Rd.of_own HV5.out.list) (own_far HV5.out.list hp1) HV5.out.cur (by omega)).mono ?_
            rintro e w8 ⟨v8, k8, rfl, ⟨z8, rfl⟩, hk8, hc, hg⟩
            have HV8 := Lib.hid (HV5.out.call hip hp1 hps hc hg)
            clear hc hg
            go_wp2
            refine bodyPost_ret (v := .tuple #[.slice A xs.length ca, .slice Ai l.length ci, .slice A9 ws.length c9, .int .i64 z8]) (by simp [results, Try.results18, go_sem]) rfl ?_
            exact ⟨_, xs, _, l, _, ws, z8, rfl, Lst.of HV8.out.list hx, ⟨⟨Ai, ci, rfl, HV8.out.it, hci, hcim⟩, by omega⟩, LstI.of HV8.out.wo (by have := HWT.out; simp; omega), (Below.refl _ _).grown HV8.out.gr (Nat.le_refl _) (fun k hk => by injection hk with hk; have := HP.out; omega)⟩
          | true =>
            have hbs : s ≤ (w5.alloc (.cells #[.int .i64 5] 3)).heap.size := by have := HV5.out.sz; simp; omega
            have HVX := Lib.hid (HV5.out.below ((Below.refl _ _).alloc (Nat.le_refl _) (.cells #[.int .i64 5] 3)))
            have HX : Hid (Rd (w5.alloc (.cells #[.int .i64 5] 3)) (some ⟨w5.heap.size, 0, none⟩) (cells1 [5])) := Lib.hid (rd_new #[.int .i64 5] 3 rfl)
            have hn9 : ws.length ≤ 9 := by have := HWT.out; omega
            go_wp2_with (at_builtin; go_must (refine wpList_app _ rfl (.tmp 44) (.tmp 45) 37 rfl s 3 _ 1 8 Try.underlying37 info3 rfl (by omega) _ _ _ rfl HVX.out.wo _ 1 1 (cells1 [5]) rfl rfl HX.out (ints_oneCell .i64 [5]) (by unfold maxLen; omega) (by omega) hbs ?_); intro v6 w6 o6 g6 d6; refine Hid.out ?_)
            have HV6 := Lib.hid (HVX.out.push (z := 5) hps hls hws o6 g6 d6)
            clear o6 g6 d6 HX hbs HVX
            refine Lib.hid ?_
            go_wp2_with fail
            refine (DY.out k5 _ A xs.length ca xs rfl hx (Rd.of_own HV6.out.list) (own_far HV6.out.list hp1) HV6.out.cur (by omega)).mono ?_
            rintro e w8 ⟨v8, k8, rfl, ⟨z8, rfl⟩, hk8, hc, hg⟩
            have HV8 := Lib.hid (HV6.out.call hip hp1 hps hc hg)
            clear hc hg
            go_wp2
            refine bodyPost_ret (v := .tuple #[.slice A xs.length ca, .slice Ai l.length ci, v6, .int .i64 z8]) (by simp [results, Try.results18, go_sem]) rfl ?_
            exact ⟨_, xs, _, l, _, (ws ++ [5]), z8, rfl, Lst.of HV8.out.list hx, ⟨⟨Ai, ci, rfl, HV8.out.it, hci, hcim⟩, by omega⟩, LstI.of HV8.out.wo (by have := HWT.out; simp; omega), (Below.refl _ _).grown HV8.out.gr (Nat.le_refl _) (fun k hk => by injection hk with hk; have := HP.out; omega)⟩

end Go.Proofs.Ytcibibkainablaa
