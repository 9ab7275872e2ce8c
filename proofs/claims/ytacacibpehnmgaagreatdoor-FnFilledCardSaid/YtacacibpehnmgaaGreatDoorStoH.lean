/- Stock book: copies: the reference's, in which a strip has other stamps, and the program's. -/
import Derived.Test.YtacacibpehnmgaaGreatDoorStoE
import Derived.Deep.RegionHeld3
namespace Go.Proofs.YtacacibpehnmgaaGreatDoor
set_option linter.unusedVariables false
set_option linter.unusedSimpArgs false
open Go.RowKit

/-- append, as one step of a region that draws its order. -/
theorem step_app {P : Program} {ops : Array Oper} {o : Oper} {a : Act} {w : World} {K : Act → World → Prop} {Q : Exit → Act → World → Prop} {E : Prop} (hgd : o.guard = none) (s x : Operand) (t : TypeId)
    (ho : o.op = .call { callee := .builtin .append, args := #[s, x], argTypes := #[t, t] })
    (base : Nat) (e : TypeId) (z : Value) (size bytes : Nat) (ht : P.underlying t = some (.slice e)) (hinfo : (P.info? e).map (fun i => (i.zero, i.size, i.bytes)) = some (some z, size, bytes))
    (hzs : z.cells.size = size) (hsz : 0 < size) (v : Value) (n : Nat) (xs : List Value) (hs : a.eval s = v) (hown : w.ownsRow base e size v n xs)
    (A : Option Addr) (m c : Nat) (news : List Value) (hx : a.eval x = .slice A m c) (hl : news.length = m * size) (hr : Rd w A news) (h1 : ∀ u ∈ news, u.oneCell' = true)
    (h63 : n + m ≤ maxLen) (hbytes : (n + m) * bytes ≤ 140737488355328) (hbase : base ≤ w.heap.size)
    (h : ∀ v' w', w'.ownsRow base e size v' (n + m) (xs ++ news) → w.grownBy w' v.ownBlock → (v'.ownBlock = v.ownBlock ∨ v'.ownBlock = some w.heap.size) → K (a.put o.dst v') w') :
    if Region.wanted o (yielded ops a.tmps) = true then Oper.wp P o a w K Q else E := by
  have hw : Region.wanted o (yielded ops a.tmps) = true := by simp [Region.wanted, hgd]
  rw [if_pos hw]
  exact wp_app w s x t ho base e z size bytes ht hinfo hzs hsz v n xs hs hown A m c news hx hl hr h1 h63 hbytes hbase h

theorem Apart.tail {v : Value} {vs : List Value} (h : Apart (v :: vs)) : Apart vs := h.map (· + 1) (fun i j e => by omega) (fun j a ha => by simpa using ha)
/-- A row appended to a list of the call's own. -/
theorem OwnB.snoc {w w1 w2 : World} {lo E EI : Nat} {v v' u : Value} {ys : List BR} {vs : List Value} {x : BR} (h : OwnB w lo E EI v ys vs) (hb : Below w.heap.size w w1) (hlo : lo ≤ w.heap.size) (hu : w1.ownsRow w.heap.size EI 1 u x.ws.length (cells1 x.ws))
    (o' : w2.ownsRow lo E 2 v' (ys.length + 1) (cellsB ys vs ++ [.int .i64 x.id, u])) (g' : w1.grownBy w2 v.ownBlock) (d' : v'.ownBlock = v.ownBlock ∨ v'.ownBlock = some w1.heap.size) : OwnB w2 lo E EI v' (ys ++ [x]) (vs ++ [u]) := by
  have hlt := h.lt
  obtain ⟨hl, hr, hi, ha⟩ := h
  have hvu : ∀ k, v.ownBlock = some k → u.ownBlock = some k → False := fun k h1 h2 => by
    have := (hlt 0 v k rfl h1).2; have := (hu.lt k h2).1; omega
  refine ⟨by simp [hl], by rw [List.length_append, cellsB_append hl]; exact o', fun j y z hy hz => ?_, ?_⟩
  · rcases Nat.lt_or_ge j vs.length with hjl | hjl
    · rw [List.getElem?_append_left hjl] at hz
      rw [List.getElem?_append_left (by omega)] at hy
      exact (own_below (hi j y z hy hz) hb).kept g' (ha.ne (i := j + 1) (j := 0) (by omega) (by simpa using hz) rfl)
    · have hj1 : j < vs.length + 1 := by have := (List.getElem?_eq_some_iff.1 hz).1; simpa using this
      obtain rfl : j = vs.length := by omega
      rw [List.getElem?_append_right (Nat.le_refl _), Nat.sub_self] at hz
      rw [hl, List.getElem?_append_right (Nat.le_refl _), Nat.sub_self] at hy
      simp at hz hy; subst hz; subst hy
      refine own_mono (hu.kept g' ?_) hlo
      cases e : u.ownBlock with
      | none => exact .inl rfl
      | some k => exact .inr fun e2 => hvu k e2.symm e
  · refine apart_cons (apart_snoc ha.tail (B := w.heap.size) (fun i a k hA hk => (hlt (i + 1) a k (by simpa using hA) hk).2) (fun k hk => (hu.lt k hk).1)) fun j b k hb' hk hbk => ?_
    rcases Nat.lt_or_ge j vs.length with hjl | hjl
    · rw [List.getElem?_append_left hjl] at hb'
      have h2 := (hlt (j + 1) b k (by simpa using hb') hbk).2
      rcases d' with d | d
      · exact ha.no (i := 0) (j := j + 1) (by omega) rfl (by simpa using hb') (d.symm.trans hk) hbk
      · rw [d] at hk; injection hk with hk; have := hb.size; omega
    · have hj1 : j < vs.length + 1 := by have := (List.getElem?_eq_some_iff.1 hb').1; simpa using this
      obtain rfl : j = vs.length := by omega
      rw [List.getElem?_append_right (Nat.le_refl _), Nat.sub_self] at hb'
      simp at hb'; subst hb'
      rcases d' with d | d
      · exact hvu k (d.symm.trans hk) hbk
      · rw [d] at hk; injection hk with hk; have := (hu.lt k hbk).2; omega
theorem apart_one (v : Value) : Apart [v] := apart_of fun i j a b k hij ha hb _ _ => by
  have := (List.getElem?_eq_some_iff.1 ha).1; have := (List.getElem?_eq_some_iff.1 hb).1; simp at *; omega
theorem ownB_nil (w : World) (lo E EI : Nat) : OwnB w lo E EI (.slice none 0 0) [] [] := ⟨rfl, World.ownsRow_nil _ _ _ _, fun j x u h => by simp at h, apart_one _⟩
theorem ownB_empty (w : World) (lo E EI : Nat) (hb : lo ≤ w.heap.size) : OwnB (w.alloc (.cells #[] E)) lo E EI (.slice (some ⟨w.heap.size, 0, none⟩) 0 0) [] [] :=
  ⟨rfl, own_empty w lo E 2 hb, fun j x u h => by simp at h, apart_one _⟩

/-- A new struct of an id and a slice of the call's own. -/
structure NewRow (wr W : World) (q EI : Nat) (id : Int) (u : Value) (n : Nat) (cs : List Value) : Prop where
  e0 : W.cell? ⟨q, 0, none⟩ = some (.int .i64 id)
  e1 : W.cell? ⟨q, 1, none⟩ = some u
  f1 : W.frozen? ⟨q, 1, none⟩ = false
  bx : Below wr.heap.size wr W
  own : W.ownsRow wr.heap.size EI 1 u n cs
  q1 : wr.heap.size ≤ q
  q2 : q < W.heap.size
  ne : u.ownBlock ≠ some q
theorem newrow_a {wr w1 : World} {E EI n : Nat} {id : Int} {u : Value} {cs : List Value} (b1 : Below wr.drew.heap.size wr.drew w1) (o1 : w1.ownsRow wr.drew.heap.size EI 1 u n cs) :
    NewRow wr (w1.alloc (.cells #[.int .i64 id, u] E)) w1.heap.size EI id u n cs where
  e0 := World.cell?_alloc_at _ _ _ _ rfl
  e1 := World.cell?_alloc_at _ _ _ _ rfl
  f1 := World.frozen?_alloc_at _ _ _ _ rfl
  bx := ((Below.refl wr.heap.size wr).drew.trans b1).alloc b1.size _
  own := own_below o1 ((Below.refl _ _).alloc (Nat.le_refl _) _)
  q1 := b1.size
  q2 := by simp
  ne := fun e => by have := (o1.lt _ e).2; omega
theorem newrow_b {wr w1 : World} {E EI n : Nat} {id : Int} {u a0 a1 : Value} {cs : List Value} (b1 : Below (wr.alloc (.cells #[a0, a1] E)).drew.heap.size (wr.alloc (.cells #[a0, a1] E)).drew w1) (o1 : w1.ownsRow (wr.alloc (.cells #[a0, a1] E)).drew.heap.size EI 1 u n cs) :
    NewRow wr ((w1.setCell ⟨wr.heap.size, 0, none⟩ (.int .i64 id)).setCell ⟨wr.heap.size, 1, none⟩ u) wr.heap.size EI id u n cs := by
  have hz : (wr.alloc (.cells #[a0, a1] E)).drew.heap.size = wr.heap.size + 1 := by simp
  have hs : wr.heap.size + 1 ≤ w1.heap.size := by have := b1.size; omega
  have i0 : (w1.cell? ⟨wr.heap.size, 0, none⟩).isSome = true := by
    rw [b1.cell (p := ⟨wr.heap.size, 0, none⟩) (by simp)]
    show ((wr.alloc (.cells #[a0, a1] E)).cell? ⟨wr.heap.size, 0, none⟩).isSome = true
    rw [World.cell?_alloc_at _ _ _ _ rfl]; rfl
  have i1 : (w1.cell? ⟨wr.heap.size, 1, none⟩).isSome = true := by
    rw [b1.cell (p := ⟨wr.heap.size, 1, none⟩) (by simp)]
    show ((wr.alloc (.cells #[a0, a1] E)).cell? ⟨wr.heap.size, 1, none⟩).isSome = true
    rw [World.cell?_alloc_at _ _ _ _ rfl]; rfl
  have fz : w1.frozen? ⟨wr.heap.size, 1, none⟩ = false := by
    rw [b1.frozen (p := ⟨wr.heap.size, 1, none⟩) (by simp)]
    show (wr.alloc (.cells #[a0, a1] E)).frozen? ⟨wr.heap.size, 1, none⟩ = false
    exact World.frozen?_alloc_at _ _ _ _ rfl
  have hne : u.ownBlock ≠ some wr.heap.size := fun e => by have := (o1.lt _ e).1; omega
  have hw : Only (fun k => k = wr.heap.size) w1 ((w1.setCell ⟨wr.heap.size, 0, none⟩ (.int .i64 id)).setCell ⟨wr.heap.size, 1, none⟩ u) :=
    ⟨rfl, rfl, rfl, by simp, fun k _ hk => (Below.heap_setCell _ ⟨wr.heap.size, 1, none⟩ u k hk).trans (Below.heap_setCell _ ⟨wr.heap.size, 0, none⟩ _ k hk)⟩
  refine ⟨?_, ?_, ?_, ?_, ?_, Nat.le_refl _, by simp; omega, hne⟩
  · rw [World.cell?_setCell_other _ _ _ _ (by simp)]
    exact World.cell?_setCell_same' _ _ _ i0
  · refine World.cell?_setCell_same' _ _ _ ?_
    rw [World.cell?_setCell_other _ _ _ _ (by simp)]
    exact i1
  · simp only [World.frozen?_setCell]; exact fz
  · exact ((((Below.refl wr.heap.size wr).alloc (Nat.le_refl _) _).drew.trans (b1.mono (by omega))).setCell (Nat.le_refl _) _).setCell (Nat.le_refl _) _
  · exact own_mono (own_only o1 hw (fun k hk e => hne (by rw [hk, e]))) (by omega)

/-- A book in which the strip at i has other stamps. -/
def withV (xs : List BR) (i : Int) (ws : List Int) : List BR := xs.mapIdx (fun k x => if (k : Int) = i then ⟨x.id, ws⟩ else x)
theorem withV_len (xs : List BR) (i : Int) (ws : List Int) : (withV xs i ws).length = xs.length := by simp [withV]
theorem withV_get {xs : List BR} {i : Int} {ws : List Int} {k : Nat} {x : BR} (h : xs[k]? = some x) : (withV xs i ws)[k]? = some (if (k : Int) = i then ⟨x.id, ws⟩ else x) := by simp [withV, h]
theorem withV_take {xs : List BR} {i : Int} {ws : List Int} {k : Nat} {x : BR} (h : xs[k]? = some x) : (withV xs i ws).take (k + 1) = (withV xs i ws).take k ++ [if (k : Int) = i then ⟨x.id, ws⟩ else x] := by
  rw [List.take_add_one, withV_get h]; rfl
theorem withV_at {xs : List BR} {ws : List Int} {k : Nat} {x : BR} (h : xs[k]? = some x) : withV xs (k : Int) ws = xs.set k ⟨x.id, ws⟩ := by
  apply List.ext_getElem?
  intro j
  by_cases hj : k = j
  · subst hj
    rw [withV_get h, if_pos rfl, List.getElem?_set_self (List.getElem?_eq_some_iff.1 h).1]
  · rw [List.getElem?_set_ne hj]
    simp only [withV, List.getElem?_mapIdx]
    cases xs[j]? with
    | none => rfl
    | some y => simp; intro e; omega
theorem withV_neg {xs : List BR} {ws : List Int} {i : Int} (h : i < 0) : withV xs i ws = xs := by
  apply List.ext_getElem?
  intro j
  simp only [withV, List.getElem?_mapIdx]
  cases xs[j]? with
  | none => rfl
  | some y => simp; intro e; omega

set_option maxRecDepth 20000 in
set_option maxHeartbeats 4000000 in
theorem l27With_any (A : Option Addr) (n c : Nat) (xs : List BR) (i : Int) (A2 : Option Addr) (m c2 : Nat) (ws : List Int) (w : World) (hn : xs.length = n) (hA : RdB w A xs) (h20 : n ≤ 1048576) (hw : ∀ x ∈ xs, x.ws.length ≤ 1048576)
    (hm : ws.length = m) (hA2 : Rd w A2 (cells1 ws)) (hm20 : m ≤ 1048576) :
    Calls Tryz.prog 37 #[.slice A n c, .int .i64 i, .slice A2 m c2] w (RetB 34 3 (withV xs i ws) w) := by
  have HN := Lib.hid hn
  have HW := Lib.hid hw
  have HA2 := Lib.hid hA2
  clear hn hw hA2
  subst hm
  go_enter Tryz.func37, Tryz.ntmps37
  go_wp2_with fail
  go_loopw [7, 8, 9] (fun v j _ wr => ∃ (k : Nat) (vs : List Value), k ≤ n ∧ j = .int .i64 k ∧ OwnB wr w.heap.size 34 3 v ((withV xs i ws).take k) vs ∧ Below w.heap.size w wr) (fun _ j _ _ => n - (intOf j).toNat)
  case atStart => exact ⟨0, [], Nat.zero_le _, rfl, ownB_empty w w.heap.size _ _ (Nat.le_refl _), (Below.refl _ _).alloc (Nat.le_refl _) _⟩
  case round =>
    obtain ⟨k, vs, hk, rfl, ho, hb⟩ := hrel
    have HO := Lib.hid ho
    have hs := hb.size
    clear ho
    by_cases hlt : k < n
    · obtain ⟨x, hxk⟩ : ∃ x, xs[k]? = some x := ⟨xs[k]'(by have := HN.out; omega), List.getElem?_eq_getElem _⟩
      obtain ⟨g, o, B, cc, rfl, hg, c0, c1, -, -, hrd⟩ := (hA.below hb).at hxk
      have hwl := HW.out x (List.mem_of_getElem? hxk)
      have HRD := Lib.hid hrd.drew
      have HT := Lib.hid (withV_take (i := i) (ws := ws) hxk)
      have hyl : ((withV xs i ws).take k).length = k := by rw [List.length_take, withV_len]; have := HN.out; omega
      have HYL := Lib.hid hyl
      have HA2W := Lib.hid (HA2.out.below hb)
      clear hrd hxk hA hyl
      by_cases hki : (k : Int) = i
      · have hd : ((k : Int) == i) = true := by simpa using hki
        rw [if_pos hki] at HT
        clear hki
        have hne : wr.heap.size ≠ g := by omega
        go_wp2_with fail
        go_region_held3 (fun w' => w'.cell? ⟨g, o + k * 2, none⟩ = some (.int .i64 x.id) ∧ w'.cell? ⟨g, o + k * 2 + 1, none⟩ = some (.slice B x.ws.length cc)) (first | go_keep | exact KE1) (first
          | (go_at_call 40; refine (l1Own_any B x.ws.length cc x.ws _ rfl (by first | exact HRD.out | exact HRD.out.alloc _) hwl).mono ?_; rintro e w1 ⟨u, rfl, o1, b1⟩; obtain ⟨Au, cu, rfl⟩ := own_form o1; obtain ⟨bc1, bf1⟩ := bcell b1; have KE1 : w1.cell? ⟨g, o + k * 2, none⟩ = some (.int .i64 x.id) ∧ w1.cell? ⟨g, o + k * 2 + 1, none⟩ = some (.slice B x.ws.length cc) := ⟨(bc1 _ _ (by simp <;> omega)).trans (by first | exact c0 | exact (World.cell?_alloc_lt _ _ _ hg).trans c0), (bc1 _ _ (by simp <;> omega)).trans (by first | exact c1 | exact (World.cell?_alloc_lt _ _ _ hg).trans c1)⟩))
        all_goals go_goals
        all_goals (first
          | (have NR := newrow_a (E := 34) (id := x.id) b1 o1
             obtain ⟨W9, hW9⟩ : ∃ W, W = w1.alloc (.cells #[.int .i64 x.id, .slice Au x.ws.length cu] 34) := ⟨_, rfl⟩
             rw [← hW9] at NR ⊢
             obtain ⟨q9, hq9⟩ : ∃ q, q = w1.heap.size := ⟨_, rfl⟩
             rw [← hq9] at NR ⊢
             clear hW9 hq9)
          | (have NR := newrow_b (id := x.id) b1 o1
             obtain ⟨W9, hW9⟩ : ∃ W, W = (w1.setCell ⟨wr.heap.size, 0, none⟩ (.int .i64 x.id)).setCell ⟨wr.heap.size, 1, none⟩ (.slice Au x.ws.length cu) := ⟨_, rfl⟩
             rw [← hW9] at NR ⊢
             obtain ⟨q9, hq9⟩ : ∃ q, q = wr.heap.size := ⟨_, rfl⟩
             have NR' : NewRow wr W9 q9 3 x.id (.slice Au x.ws.length cu) x.ws.length (cells1 x.ws) := by rw [hq9]; exact NR
             clear NR
             have NR := NR'
             rw [show (⟨wr.heap.size, 0, none⟩ : Addr) = ⟨q9, 0, none⟩ by rw [hq9]]
             clear NR' hW9 hq9))
        all_goals (
          clear b1 bc1 bf1 o1 KE1 c0 c1 hne HRD
          have HNR := Lib.hid NR
          have r0 := NR.e0
          have hq1 := NR.q1
          have hq2 := NR.q2
          have hA2' := Lib.hid (HA2W.out.below NR.bx)
          have hsW := NR.bx.size
          clear NR
          go_wp2_with fail
          refine (l1Own_any A2 ws.length c2 ws _ rfl hA2'.out hm20).mono ?_
          rintro e w2 ⟨u2, rfl, o2, b2⟩
          obtain ⟨Au2, cu2, rfl⟩ := own_form o2
          have hs2 := b2.size
          have d0 : w2.cell? ⟨q9, 0, none⟩ = some (.int .i64 x.id) := (b2.cell (p := ⟨q9, 0, none⟩) hq2).trans r0
          have d1 : w2.cell? ⟨q9, 1, none⟩ = some (.slice Au x.ws.length cu) := (b2.cell (p := ⟨q9, 1, none⟩) hq2).trans HNR.out.e1
          have g1 : w2.frozen? ⟨q9, 1, none⟩ = false := (b2.frozen (p := ⟨q9, 1, none⟩) hq2).trans HNR.out.f1
          have BX2 := Lib.hid ((HNR.out.bx.trans (b2.mono hsW)).setCell (p := ⟨q9, 1, none⟩) hq1 (.slice Au2 ws.length cu2))
          have hw9 : Only (fun k => k = q9) w2 (w2.setCell ⟨q9, 1, none⟩ (.slice Au2 ws.length cu2)) := ⟨rfl, rfl, rfl, by simp, fun k _ hk => Below.heap_setCell _ ⟨q9, 1, none⟩ _ k hk⟩
          have OU2 := Lib.hid (own_only (own_mono o2 hsW) hw9 (fun k hk e => by have := (o2.lt k hk).1; omega))
          have hrow := fun q => own_below HO.out.2.1 (BX2.out.alloc BX2.out.size q)
          rw [HYL.out] at hrow
          have HROW := Lib.hid hrow
          clear o2 b2 r0 hw9 hrow HNR hA2'
          go_wp2_with (at_builtin; go_must (refine wpList_app _ rfl (.tmp 35) (.tmp 37) 24 rfl w.heap.size 34 _ 2 32 Tryz.underlying24 info34 rfl (by omega) _ k _ rfl (HROW.out _) _ 1 1 [.int .i64 x.id, .slice Au2 ws.length cu2] rfl rfl (rd_new #[.int .i64 x.id, .slice Au2 ws.length cu2] 34 (by simp)) (by intro u hu; simp at hu; rcases hu with rfl | rfl <;> rfl) (by unfold maxLen; omega) (by omega) (by simp; omega) ?_); intro v' w' o' g' d')
          have hfin := HO.out.snoc (x := ⟨x.id, ws⟩) (BX2.out.alloc BX2.out.size _) hs (own_below OU2.out ((Below.refl _ _).alloc (Nat.le_refl _) _)) (by rw [HYL.out]; exact o') g' d'
          have HF := Lib.hid hfin
          have HB := Lib.hid ((hb.trans ((BX2.out.alloc BX2.out.size _).mono hs)).trans (below_app (HROW.out _) g' (by simp; omega) (Nat.le_refl _)))
          clear hfin o' g' d' BX2 OU2 HROW
          go_roundw
          case rel => exact ⟨k + 1, _, by omega, by go_num, by rw [HT.out]; exact HF.out, HB.out⟩
          case measure => simp [intOf]; omega)
      · have hd : ((k : Int) == i) = false := by simpa using hki
        rw [if_neg hki] at HT
        clear hki
        have hne : wr.heap.size ≠ g := by omega
        go_wp2_with fail
        go_region_held3 (fun w' => w'.cell? ⟨g, o + k * 2, none⟩ = some (.int .i64 x.id) ∧ w'.cell? ⟨g, o + k * 2 + 1, none⟩ = some (.slice B x.ws.length cc)) (first | go_keep | exact KE1) (first
          | (go_at_call 40; refine (l1Own_any B x.ws.length cc x.ws _ rfl (by first | exact HRD.out | exact HRD.out.alloc _) hwl).mono ?_; rintro e w1 ⟨u, rfl, o1, b1⟩; obtain ⟨Au, cu, rfl⟩ := own_form o1; obtain ⟨bc1, bf1⟩ := bcell b1; have KE1 : w1.cell? ⟨g, o + k * 2, none⟩ = some (.int .i64 x.id) ∧ w1.cell? ⟨g, o + k * 2 + 1, none⟩ = some (.slice B x.ws.length cc) := ⟨(bc1 _ _ (by simp <;> omega)).trans (by first | exact c0 | exact (World.cell?_alloc_lt _ _ _ hg).trans c0), (bc1 _ _ (by simp <;> omega)).trans (by first | exact c1 | exact (World.cell?_alloc_lt _ _ _ hg).trans c1)⟩))
        all_goals go_goals
        all_goals (first
          | (have NR := newrow_a (E := 34) (id := x.id) b1 o1
             obtain ⟨W9, hW9⟩ : ∃ W, W = w1.alloc (.cells #[.int .i64 x.id, .slice Au x.ws.length cu] 34) := ⟨_, rfl⟩
             rw [← hW9] at NR ⊢
             obtain ⟨q9, hq9⟩ : ∃ q, q = w1.heap.size := ⟨_, rfl⟩
             rw [← hq9] at NR ⊢
             clear hW9 hq9)
          | (have NR := newrow_b (id := x.id) b1 o1
             obtain ⟨W9, hW9⟩ : ∃ W, W = (w1.setCell ⟨wr.heap.size, 0, none⟩ (.int .i64 x.id)).setCell ⟨wr.heap.size, 1, none⟩ (.slice Au x.ws.length cu) := ⟨_, rfl⟩
             rw [← hW9] at NR ⊢
             obtain ⟨q9, hq9⟩ : ∃ q, q = wr.heap.size := ⟨_, rfl⟩
             have NR' : NewRow wr W9 q9 3 x.id (.slice Au x.ws.length cu) x.ws.length (cells1 x.ws) := by rw [hq9]; exact NR
             clear NR
             have NR := NR'
             rw [show (⟨wr.heap.size, 0, none⟩ : Addr) = ⟨q9, 0, none⟩ by rw [hq9]]
             clear NR' hW9 hq9))
        all_goals (
          clear b1 bc1 bf1 o1 KE1 c0 c1 hne HRD
          have HNR := Lib.hid NR
          have d0 := NR.e0
          have d1 := NR.e1
          have hq1 := NR.q1
          have hq2 := NR.q2
          have hsW := NR.bx.size
          clear NR
          have hrow := fun q => own_below HO.out.2.1 (HNR.out.bx.alloc HNR.out.bx.size q)
          rw [HYL.out] at hrow
          have HROW := Lib.hid hrow
          clear hrow
          go_wp2_with (at_builtin; go_must (refine wpList_app _ rfl (.tmp 35) (.tmp 37) 24 rfl w.heap.size 34 _ 2 32 Tryz.underlying24 info34 rfl (by omega) _ k _ rfl (HROW.out _) _ 1 1 [.int .i64 x.id, .slice Au x.ws.length cu] rfl rfl (rd_new #[.int .i64 x.id, .slice Au x.ws.length cu] 34 (by simp)) (by intro u hu; simp at hu; rcases hu with rfl | rfl <;> rfl) (by unfold maxLen; omega) (by omega) (by simp; omega) ?_); intro v' w' o' g' d')
          have hfin := HO.out.snoc (x := x) (HNR.out.bx.alloc HNR.out.bx.size _) hs (own_below HNR.out.own ((Below.refl _ _).alloc (Nat.le_refl _) _)) (by rw [HYL.out]; exact o') g' d'
          have HF := Lib.hid hfin
          have HB := Lib.hid ((hb.trans ((HNR.out.bx.alloc HNR.out.bx.size _).mono hs)).trans (below_app (HROW.out _) g' (by simp; omega) (Nat.le_refl _)))
          clear hfin o' g' d' HROW
          go_roundw
          case rel => exact ⟨k + 1, _, by omega, by go_num, by rw [HT.out]; exact HF.out, HB.out⟩
          case measure => simp [intOf]; omega)
    · have hd : decide (k < n) = false := by simpa using hlt
      go_wp2
      go_ret
      have hkn : k = n := by omega
      refine ⟨_, vs, rfl, ?_, hb⟩
      have h1 := HO.out
      rw [List.take_of_length_le (by rw [withV_len, HN.out]; omega)] at h1
      exact h1

set_option maxRecDepth 20000 in
set_option maxHeartbeats 4000000 in
theorem copyBook_any (A : Option Addr) (n c : Nat) (xs : List BR) (w : World) (hn : xs.length = n) (hA : RdB w A xs) (h20 : n ≤ 1048576) (hw : ∀ x ∈ xs, x.ws.length ≤ 1048576) :
    Calls Tryz.prog 34 #[.slice A n c] w (RetB 34 3 xs w) := by
  have HN := Lib.hid hn
  have HW := Lib.hid hw
  clear hn hw
  go_enter Tryz.func34, Tryz.ntmps34
  go_wp2_with fail
  go_loopw [3, 8, 5] (fun v j _ wr => ∃ (k : Nat) (vs : List Value), k ≤ n ∧ j = .int .i64 k ∧ OwnB wr w.heap.size 34 3 v (xs.take k) vs ∧ Below w.heap.size w wr) (fun _ j _ _ => n - (intOf j).toNat)
  case atStart => exact ⟨0, [], Nat.zero_le _, rfl, ownB_nil w w.heap.size _ _, Below.refl _ _⟩
  case round =>
    obtain ⟨k, vs, hk, rfl, ho, hb⟩ := hrel
    have HO := Lib.hid ho
    have hs := hb.size
    clear ho
    by_cases hlt : k < n
    · obtain ⟨x, hxk⟩ : ∃ x, xs[k]? = some x := ⟨xs[k]'(by have := HN.out; omega), List.getElem?_eq_getElem _⟩
      obtain ⟨g, o, B, cc, rfl, hg, c0, c1, -, -, hrd⟩ := (hA.below hb).at hxk
      have hwl := HW.out x (List.mem_of_getElem? hxk)
      have HRD := Lib.hid (fun q => (hrd.alloc q).drew)
      have HT := Lib.hid (show xs.take (k + 1) = xs.take k ++ [x] by rw [List.take_add_one, hxk]; rfl)
      have hyl : (xs.take k).length = k := by rw [List.length_take]; have := HN.out; omega
      have HYL := Lib.hid hyl
      have BA := Lib.hid ((Below.refl wr.heap.size wr).alloc (Nat.le_refl _) (.cells #[.int .i64 x.id, .slice B x.ws.length cc] 34))
      have q0 : (wr.alloc (.cells #[.int .i64 x.id, .slice B x.ws.length cc] 34)).cell? ⟨wr.heap.size, 0, none⟩ = some (.int .i64 x.id) := World.cell?_alloc_at _ _ _ _ rfl
      have q1 : (wr.alloc (.cells #[.int .i64 x.id, .slice B x.ws.length cc] 34)).cell? ⟨wr.heap.size, 1, none⟩ = some (.slice B x.ws.length cc) := World.cell?_alloc_at _ _ _ _ rfl
      have HSZ := Lib.hid (show (wr.alloc (.cells #[.int .i64 x.id, .slice B x.ws.length cc] 34)).drew.heap.size = wr.heap.size + 1 by simp)
      clear hrd hxk hA hyl
      go_wp2_with fail
      go_region_held3 (fun w' => w'.cell? ⟨wr.heap.size, 0, none⟩ = some (.int .i64 x.id) ∧ w'.cell? ⟨wr.heap.size, 1, none⟩ = some (.slice B x.ws.length cc)) (first | go_keep | exact KE1 | exact KE2) (first
        | (go_at_call 59; refine (cloneInt_any B x.ws.length cc x.ws _ rfl (HRD.out _) hwl).mono ?_; rintro e w1 ⟨u, rfl, o1, b1⟩; obtain ⟨Au, cu, rfl⟩ := own_form o1; have KE1 : w1.cell? ⟨wr.heap.size, 0, none⟩ = some (.int .i64 x.id) ∧ w1.cell? ⟨wr.heap.size, 1, none⟩ = some (.slice B x.ws.length cc) := ⟨(b1.cell (p := ⟨wr.heap.size, 0, none⟩) (by have := HSZ.out; show wr.heap.size < _; omega)).trans q0, (b1.cell (p := ⟨wr.heap.size, 1, none⟩) (by have := HSZ.out; show wr.heap.size < _; omega)).trans q1⟩; have hs1 : wr.heap.size + 1 ≤ w1.heap.size := (by have h1 := b1.size; have h2 := HSZ.out; omega); have BX := Lib.hid (BA.out.drew.trans (b1.mono (by have := HSZ.out; omega))); have hrow := fun q => own_below HO.out.2.1 (BX.out.alloc BX.out.size q); rw [HYL.out] at hrow; have HROW := Lib.hid hrow; clear hrow)
        | (refine step_app rfl (.tmp 12) (.tmp 19) 24 rfl w.heap.size 34 _ 2 32 Tryz.underlying24 info34 rfl (by omega) _ k _ (by rfl) (HROW.out (.cells #[.int .i64 x.id, .slice Au x.ws.length cu] 34)) (some ⟨w1.heap.size, 0, none⟩) 1 1 [.int .i64 x.id, .slice Au x.ws.length cu] (by simp [Act.eval, Act.put]) rfl (rd_new #[.int .i64 x.id, .slice Au x.ws.length cu] 34 (by simp)) (by intro u hu; simp at hu; rcases hu with rfl | rfl <;> rfl) (by unfold maxLen; omega) (by omega) (by simp; omega) ?_; intro v' w' o' g' d'; have hvn := HO.out.lt 0 _ wr.heap.size rfl; have KE2 : w'.cell? ⟨wr.heap.size, 0, none⟩ = some (.int .i64 x.id) ∧ w'.cell? ⟨wr.heap.size, 1, none⟩ = some (.slice B x.ws.length cc) := ⟨(g'.cell_far ⟨wr.heap.size, 0, none⟩ (by simp; omega) (fun e => by have := (hvn e.symm).2; omega)).trans ((World.cell?_alloc_lt _ _ _ (by simp; omega)).trans KE1.1), (g'.cell_far ⟨wr.heap.size, 1, none⟩ (by simp; omega) (fun e => by have := (hvn e.symm).2; omega)).trans ((World.cell?_alloc_lt _ _ _ (by simp; omega)).trans KE1.2)⟩))
      all_goals go_goals
      all_goals (
        have hu : w1.ownsRow wr.heap.size 3 1 (.slice Au x.ws.length cu) x.ws.length (cells1 x.ws) := own_mono o1 (by have := HSZ.out; omega)
        have hfin := HO.out.snoc (x := x) (BX.out.alloc BX.out.size _) hs (own_below hu ((Below.refl _ _).alloc (Nat.le_refl _) _)) (by rw [HYL.out]; exact o') g' d'
        have HF := Lib.hid hfin
        have HB := Lib.hid ((hb.trans ((BX.out.alloc BX.out.size _).mono hs)).trans (below_app (HROW.out _) g' (by simp; omega) (Nat.le_refl _)))
        clear hfin o' g' d' HROW KE1 KE2 o1 b1 hvn q0 q1 c0 c1 hu
        go_wp2_with fail
        go_roundw
        case rel => exact ⟨k + 1, _, by omega, by go_num, by rw [HT.out]; exact HF.out, HB.out⟩
        case measure => simp [intOf]; omega)
    · have hd : decide (k < n) = false := by simpa using hlt
      go_wp2
      go_ret
      have hkn : k = n := by omega
      refine ⟨_, vs, rfl, ?_, hb⟩
      have h1 := HO.out
      rw [List.take_of_length_le (by have := HN.out; omega)] at h1
      exact h1
end Go.Proofs.YtacacibpehnmgaaGreatDoor
